import Derived.Test.YtjjpmbaddpiamaaDoorZab
import Derived.Test.YtjjpmbaddpiamaaDoorHI
import Derived.Test.YtjjpmbaddpiamaaDoorJ
/-
  The abstract machine: a region that draws its order, but for its last operation, which must come behind all others.
-/
set_option linter.unusedSimpArgs false
set_option linter.unusedVariables false
namespace Go.Proofs.YtjjpmbaddpiamaaDoor
open Go.RowKit
section
variable {c : Ctx} {ops : Array Oper} {Q : Exit → Act → World → Prop} {x : Nat → Eff} {last : Nat}
theorem wpOpIn_mono {F : Fence} {n : Nat} {P : Program} {i : Nat} {K K' : Act → World → Prop} {a : Act} {w : World} (h : ∀ a w, K a w → K' a w) (hh : wpOpIn F n P ops Q i K a w) : wpOpIn F n P ops Q i K' a w := by
  unfold wpOpIn at *
  split at hh
  · exact h _ _ hh
  · split
    · rename_i hw; rw [if_pos hw] at hh; exact Oper.wpIn_mono h hh
    · rename_i hw; rw [if_neg hw] at hh; exact ⟨hh.1, h _ _ hh.2⟩
theorem seqTail {F : Fence} {n : Nat} {P : Program} (hlast : ∀ j i, last ≤ i → i < j → j < ops.size → Anc ops j i) (hed : ∀ j o, ops[j]? = some o → ∀ e ∈ o.after, Region.binds .any e = true → e.on < j) : ∀ (tl : List Oper) (k : Nat) (listed : Array Bool) (a : Act) (w : World), last ≤ k → (∀ j, tl[j]? = ops[k + j]?) → (∀ o ∈ tl, o.guard = none) → listed.size = ops.size → (∀ j, j < ops.size → listed.getD j true = decide (j < k)) → wpListIn F n P ops Q tl a w → wpAnyIn F n P .any ops Q tl.length listed a w
  | [], k, listed, a, w, _, hl, _, hs, hls, h => by
    refine ⟨List.eq_nil_iff_forall_not_mem.2 fun j hj => ?_, by simpa [wpListIn] using h⟩
    obtain ⟨h1, o, ho, _⟩ := mem_ready.1 hj
    have hlt := (Array.getElem?_eq_some_iff.1 ho).1
    have h2 := hl 0
    simp at h2
    rw [hls j hlt] at h1
    simp at h1; omega
  | o :: tl, k, listed, a, w, hk, hl, hg, hs, hls, h => by
    have h0 : ops[k]? = some o := by simpa using (hl 0).symm
    have hklt := (Array.getElem?_eq_some_iff.1 h0).1
    have hf : ∀ j, j < k → listed.getD j false = true := fun j hj => by
      have h1 := hls j (by omega)
      have h2 : j < listed.size := by omega
      simp [h2, hj] at h1 ⊢; exact h1
    have hd : Dc ops listed := fun j oj hj hlj e he hb => by
      have hjl := (Array.getElem?_eq_some_iff.1 hj).1
      have h1 := hls j hjl
      have h2 : j < listed.size := by omega
      simp [h2] at h1 hlj
      have : j < k := by rw [hlj] at h1; simpa using h1.symm
      exact hf _ (Nat.lt_trans (hed j oj hj e he hb) this)
    have hkr : k ∈ Region.ready .any ops listed := mem_ready.2 ⟨by rw [hls k hklt]; simp, o, h0, fun e he hb => hf _ (hed k o h0 e he hb)⟩
    refine ⟨fun hn => (by rw [hn] at hkr; cases hkr), fun i hi => ?_⟩
    have hik : i = k := by
      obtain ⟨h1, oi, hoi, hall⟩ := mem_ready.1 hi
      have hlt := (Array.getElem?_eq_some_iff.1 hoi).1
      rw [hls i hlt] at h1
      simp at h1
      rcases Nat.lt_or_ge k i with h2 | h2
      · have h3 := hd.anc (hlast i k hk h2 hlt) (fun o ho e he hb => by rw [hoi] at ho; cases ho; exact hall e he hb)
        have h4 := hls k hklt
        have h5 : k < listed.size := by omega
        simp [h5] at h3 h4
        rw [h3] at h4; cases h4
      · omega
    subst hik
    have hw : Region.wanted o (yielded ops a.tmps) = true := by simp [Region.wanted, hg o (by simp)]
    unfold wpListIn at h
    rw [if_pos hw] at h
    unfold wpOpIn
    simp only [h0]
    rw [if_pos hw]
    refine Oper.wpIn_mono (fun a w hq => seqTail hlast hed tl (i + 1) _ a w (by omega) (fun j => by have := hl (j + 1); simpa [Nat.add_assoc, Nat.add_comm 1 j] using this) (fun o ho => hg o (by simp [ho])) (by simpa using hs) (fun j hj => ?_) hq) h
    by_cases hjk : i = j
    · subst hjk; have : i < listed.size := by omega
      simp [this]
    · rw [getD_set_ne true hjk, hls j hj]
      simp; omega
def Lq (c : Ctx) (ops : Array Oper) (Q : Exit → Act → World → Prop) (x : Nat → Eff) (last : Nat) (tl : List Oper) : Nat → Array Bool → St → Prop
  | 0, listed, st => (listed.size = ops.size ∧ ∀ j, j < ops.size → listed.getD j true = decide (j < last)) ∧ Tr c st (wpListIn (Fn c.frs.rd) 0 c.P ops Q tl)
  | f + 1, listed, st => Region.ready .any ops listed ≠ [] ∧ ∀ i ∈ Region.ready .any ops listed, (∀ o, ops[i]? = some o → Loc c ops o st (x i)) ∧ Lq c ops Q x last tl f (listed.setIfInBounds i true) ((x i).put st)
theorem Lq.sound {tl : List Oper} (hlast : ∀ j i, last ≤ j → i < j → j < ops.size → Anc ops j i) (hed : ∀ j o, ops[j]? = some o → ∀ e ∈ o.after, Region.binds .any e = true → e.on < j) (htl : ∀ j, tl[j]? = ops[last + j]?) (hg : ∀ o ∈ tl, o.guard = none) : ∀ (f : Nat) (listed : Array Bool) (st : St), Lq c ops Q x last tl f listed st → ∀ S at_ a w, Rel c S at_ st a w → wpAnyIn (Fn c.frs.rd) 0 c.P .any ops Q (f + tl.length) listed a w
  | 0, listed, _, ⟨⟨h1, h2⟩, h4⟩, S, at_, a, w, hr => by
    rw [Nat.zero_add]
    exact seqTail (fun j i h1 h2 h3 => hlast j i (by omega) h2 h3) hed tl last listed a w (Nat.le_refl _) htl hg h1 h2 (h4 S at_ a w hr)
  | f + 1, listed, st, h, S, at_, a, w, hr => by
    rw [show f + 1 + tl.length = (f + tl.length) + 1 by omega]
    refine ⟨fun h0 => absurd h0 h.1, fun i hi => ?_⟩
    obtain ⟨h1, h2⟩ := h.2 i hi
    obtain ⟨_, o, ho, _⟩ := mem_ready.1 hi
    unfold wpOpIn
    simp only [ho]
    have h3 := (h1 o ho).run st (St.alike.refl ..) S at_ a w hr (wpAnyIn (Fn c.frs.rd) 0 c.P .any ops Q (f + tl.length) (listed.setIfInBounds i true)) Q (fun S' at' a' w' hr' => Lq.sound hlast hed htl hg f _ _ h2 S' at' a' w' hr')
    split
    · rename_i hw; rw [if_pos hw] at h3; exact h3
    · rename_i hw; rw [if_neg hw] at h3; exact ⟨fun _ _ => trivial, h3⟩
theorem Lq.first {tl : List Oper} (hlast : ∀ j i, last ≤ j → i < j → j < ops.size → Anc ops j i) {i : Nat} (hil : i < last) {oi : Oper} (hi : ops[i]? = some oi) : ∀ (f : Nat) (listed : Array Bool) (st : St), Dc ops listed →
    (∀ j, j ≠ i → listed.getD j true = false → Anc ops j i ∨ Apt ops x i j) → i ∈ Region.ready .any ops listed → Loc c ops oi st (x i) → Lq c ops Q x last tl f (listed.setIfInBounds i true) ((x i).put st) → Lq c ops Q x last tl (f + 1) listed st := by
  have hun : ∀ (listed : Array Bool), Dc ops listed → i ∈ Region.ready .any ops listed → ∀ j, j ∈ Region.ready .any ops listed → ¬ Anc ops j i := fun listed hd hr j hj ha => by
    obtain ⟨hjun, oj, hoj, hall⟩ := mem_ready.1 hj
    have hun := (mem_ready.1 hr).1
    have h3 := hd.anc ha (fun o ho e he hb => by rw [hoj] at ho; cases ho; exact hall e he hb)
    rcases Nat.lt_or_ge i listed.size with h' | h'
    · simp [h'] at h3 hun; rw [h3] at hun; cases hun
    · simp [Array.getElem?_eq_none h'] at h3
  intro f
  induction f with
  | zero =>
    intro listed st hd _ hr hl H
    refine ⟨fun h => (by rw [h] at hr; cases hr), fun j hj => ?_⟩
    by_cases hji : j = i
    · subst hji; exact ⟨fun o ho => by rw [hi] at ho; cases ho; exact hl, H⟩
    · have hjr := ready_mono hj hji
      obtain ⟨h1, oj, hoj, _⟩ := mem_ready.1 hjr
      have hlt := (Array.getElem?_eq_some_iff.1 hoj).1
      rw [H.1.2 j hlt] at h1
      simp at h1
      exact absurd (hlast j i h1 (by omega) hlt) (hun listed hd hr j hj)
  | succ f ih =>
    intro listed st hd hfree hr hl H
    refine ⟨fun h => (by rw [h] at hr; cases hr), fun j hj => ?_⟩
    by_cases hji : j = i
    · subst hji; exact ⟨fun o ho => by rw [hi] at ho; cases ho; exact hl, H⟩
    · obtain ⟨h1, h2⟩ := H.2 j (ready_mono hj hji)
      obtain ⟨hjun, oj, hoj, hall⟩ := mem_ready.1 hj
      obtain ⟨hap, hsig⟩ := (hfree j hji hjun).resolve_left (hun listed hd hr j hj) oi oj hi hoj
      obtain ⟨a1, a2, a3⟩ := Oper.apart_spec hap
      obtain ⟨s1, s2⟩ := sigApart_spec hsig
      have k1 : ∀ p ∈ (x i).wr, ∀ k ∈ (x j).rd, p.2.1 ≠ k.2 := fun p hp k hk e => (s1 p.2.1 (List.mem_map_of_mem hp)).1 (e ▸ List.mem_map_of_mem hk)
      have k2 : ∀ p ∈ (x i).wr, ∀ q ∈ (x j).wr, p.2.1 ≠ q.2.1 := fun p hp q hq e => (s1 p.2.1 (List.mem_map_of_mem hp)).2 (e ▸ List.mem_map_of_mem hq)
      have k3 : ∀ p ∈ (x j).wr, ∀ k ∈ (x i).rd, p.2.1 ≠ k.2 := fun p hp k hk e => s2 p.2.1 (List.mem_map_of_mem hp) (e ▸ List.mem_map_of_mem hk)
      have hlj := h1 oj hoj
      have hlj' : Loc c ops oj st (x j) := hlj.of_alike (put_alike (fun d hd' => a1 d (hl.dst ▸ hd')) k1).symm
      refine ⟨fun o ho => by rw [hoj] at ho; cases ho; exact hlj', ?_⟩
      refine ih (listed.setIfInBounds j true) _ (hd.set hj) (fun k hki hun' => ?_) (ready_mono hr (Ne.symm hji)) (hl.of_alike (put_alike (fun d hd' => a3 d (hlj.dst ▸ hd')) k3)) ?_
      · refine hfree k hki ?_
        by_cases hjk : j = k
        · subst hjk; exact hjun
        · rw [getD_set_ne true hjk] at hun'; exact hun'
      · rw [Array.setIfInBounds_comm _ _ hji, ← put_comm (fun d hd' => by rw [hlj.dst]; exact a2 d (hl.dst ▸ hd')) k2]
        exact h2
def LL (c : Ctx) (ops : Array Oper) (Q : Exit → Act → World → Prop) (x : Nat → Eff) (tl : List Oper) : Nat → St → List Oper → Prop
  | _, st, [] => Tr c st (wpListIn (Fn c.frs.rd) 0 c.P ops Q tl)
  | k, st, o :: l => Loc c ops o st (x k) ∧ LL c ops Q x tl (k + 1) ((x k).put st) l
theorem LL.all {tl : List Oper} (hlast : ∀ j i, last ≤ j → i < j → j < ops.size → Anc ops j i) (hsz : last ≤ ops.size) (hed : ∀ j o, ops[j]? = some o → ∀ e ∈ o.after, Region.binds .any e = true → e.on < j) (hpair : ∀ i j, i < j → j < ops.size → Anc ops j i ∨ Apt ops x i j) :
    ∀ (l : List Oper) (k : Nat) (listed : Array Bool) (st : St), (∀ j, j < l.length → l[j]? = ops[k + j]?) → k + l.length = last → listed.size = ops.size → (∀ j, j < ops.size → listed.getD j true = decide (j < k)) → LL c ops Q x tl k st l → Lq c ops Q x last tl l.length listed st
  | [], k, listed, st, _, hk, hs, hls, h => by
    have hk' : k = last := by simpa using hk
    subst hk'
    exact ⟨⟨hs, hls⟩, h⟩
  | o :: l, k, listed, st, hl, hk, hs, hls, h => by
    have h0 : ops[k]? = some o := by simpa using (hl 0 (by simp)).symm
    have hklt := (Array.getElem?_eq_some_iff.1 h0).1
    have hf : ∀ j, j < k → listed.getD j false = true := fun j hj => by
      have h1 := hls j (by omega)
      have h2 : j < listed.size := by omega
      simp [h2, hj] at h1 ⊢; exact h1
    simp only [List.length_cons] at hk
    refine Lq.first hlast (by omega) h0 l.length listed st (fun j oj hj hlj e he hb => ?_) (fun j hjk hun => ?_) (mem_ready.2 ⟨by rw [hls k hklt]; simp, o, h0, fun e he hb => hf _ (hed k o h0 e he hb)⟩) h.1 ?_
    · have hjl := (Array.getElem?_eq_some_iff.1 hj).1
      have h1 := hls j hjl
      have h2 : j < listed.size := by omega
      simp [h2] at h1 hlj
      have : j < k := by rw [hlj] at h1; simpa using h1.symm
      exact hf _ (Nat.lt_trans (hed j oj hj e he hb) this)
    · have hjs : j < ops.size := by
        rcases Nat.lt_or_ge j listed.size with h' | h'
        · omega
        · simp [Array.getElem?_eq_none h'] at hun
      rw [hls j hjs] at hun
      exact hpair k j (by simp at hun; omega) hjs
    · refine LL.all hlast hsz hed hpair l (k + 1) _ _ (fun j hj => by have := hl (j + 1) (by simpa using hj); simpa [Nat.add_assoc, Nat.add_comm 1 j] using this) (by omega) (by simpa using hs) (fun j hj => ?_) h.2
      by_cases hjk : k = j
      · subst hjk; have : k < listed.size := by omega
        simp [this]
      · rw [getD_set_ne true hjk, hls j hj]
        simp; omega
theorem DW.listA {Q' : Exit → Act → World → Prop} : ∀ (l : List Oper) (log : List Eff) (st : St), DW c ops Q' log st l → ∃ effs : List Eff, log.reverse <+: effs ∧ effs.length = log.length + l.length ∧ drawOk ops (effs.map Eff.sig) = true ∧ LW c ops Q' (fun i => (effs[i]?).getD default) log.length st l := DW.list
/-- What is left ahead of the last operations. -/
def LastQ (c : Ctx) (ops : Array Oper) (Q : Exit → Act → World → Prop) (tl : List Oper) : Exit → Act → World → Prop
  | .normal => wpListIn (Fn c.frs.rd) 0 c.P ops Q tl
  | _ => fun _ _ => False
theorem LW.toLL {tl : List Oper} : ∀ (l : List Oper) (k : Nat) (st : St), LW c ops (LastQ c ops Q tl) x k st l → LL c ops Q x tl k st l
  | [], _, _, h => h
  | _ :: l, k, _, h => ⟨h.1, LW.toLL l (k + 1) _ h.2⟩
def cutN : Nat → List Oper → List Oper × List Oper
  | 0, L => ([], L)
  | _ + 1, [] => ([], [])
  | n + 1, o :: L => (o :: (cutN n L).1, (cutN n L).2)
theorem cutN_eq : ∀ {n : Nat} {L : List Oper}, L = (cutN n L).1 ++ (cutN n L).2
  | 0, _ => rfl
  | _ + 1, [] => rfl
  | n + 1, o :: L => by rw [cutN]; exact congrArg (o :: ·) cutN_eq
def lastOk (L : List Oper) (k : Nat) : Bool := (List.range L.length).all fun j => decide (j < k) || (List.range j).all fun i => ((ancT L []).getD j 0).testBit i
theorem ancT_len : ∀ (l : List Oper) (tab : List Nat), (ancT l tab).length = tab.length + l.length
  | [], tab => by simp [ancT]
  | o :: l, tab => by rw [ancT, ancT_len l]; simp; omega
theorem TrC.drawLast {id : Nat} {L l tl : List Oper} {st : St} (hm : c.P.follows .mixedOrders = true) (hLe : L = l ++ tl) (hl : lastOk L l.length = true) (hg : tl.all (·.guard.isNone) = true) (h : (∀ d, st.obj (st.gen + 1) d = .none) → DW c L.toArray (LastQ c L.toArray Q tl) [] { st with gen := st.gen + 1 } l) : TrC c st (.region id L.toArray true) Q := fun S at_ a w hr => by
  refine wpIn_region_any hm ?_
  obtain ⟨effs, h1, h2, h3, h4⟩ := DW.list l [] _ (h fun d => hr.gen _ d (Nat.lt_succ_self _))
  simp only [drawOk, Bool.and_eq_true] at h3
  obtain ⟨⟨_, h5⟩, h6⟩ := h3
  have hlen : effs.length = l.length := by simpa using h2
  have hLl : L.length = l.length + tl.length := by rw [hLe]; simp
  have htab := ancT_spec (ops := L.toArray) L [] (by simp) (by simp)
  have htl : (ancT L []).length = L.length := by simpa using ancT_len L []
  have hlast : ∀ j i, l.length ≤ j → i < j → j < L.toArray.size → Anc L.toArray j i := fun j i hj hi hjs => by
    have hjs' : j < L.length := by simpa using hjs
    have h7 := List.all_eq_true.1 hl j (List.mem_range.2 hjs')
    rw [decide_eq_false (by omega), Bool.false_or] at h7
    have h7 := List.all_eq_true.1 h7 i (List.mem_range.2 hi)
    have h8 : (ancT L [])[j]? = some ((ancT L [])[j]'(by omega)) := List.getElem?_eq_getElem (by omega)
    rw [List.getD_eq_getElem?_getD, h8] at h7
    exact htab _ _ h8 i (by simpa using h7)
  have hed : ∀ j o, L.toArray[j]? = some o → ∀ e ∈ o.after, Region.binds .any e = true → e.on < j := fun j o hj e he hb => by have := edgesOk_spec _ _ h5 j o (by simpa using hj) e he hb; omega
  have hb := LL.all (c := c) (Q := Q) (ops := L.toArray) (x := fun i => (effs[i]?).getD default) (last := l.length) (tl := tl) hlast (by simp; omega) hed
    (fun i j hij hj => by
      by_cases hjl : l.length ≤ j
      · exact .inl (hlast j i hjl hij hj)
      have hjl' : j < l.length := by omega
      have := pairsOk_spec _ _ h6 i j (L[i]'(by omega), (effs[i]'(by omega)).sig, (ancT L [])[i]'(by omega)) (L[j]'(by omega), (effs[j]'(by omega)).sig, (ancT L [])[j]'(by omega)) hij
        (by simp [List.getElem?_zip_eq_some]; exact ⟨_, List.getElem?_eq_getElem (by omega), rfl⟩) (by simp [List.getElem?_zip_eq_some]; exact ⟨_, List.getElem?_eq_getElem (by omega), rfl⟩)
      rcases this with h7 | h7
      · exact .inl (htab j ((ancT L [])[j]'(by omega)) (List.getElem?_eq_getElem (by omega)) i (by simpa using h7))
      · refine .inr fun oi oj hoi hoj => ?_
        have e1 : oi = L[i]'(by omega) := by simp at hoi; obtain ⟨_, h⟩ := List.getElem?_eq_some_iff.1 hoi; exact h.symm
        have e2 : oj = L[j]'(by omega) := by simp at hoj; obtain ⟨_, h⟩ := List.getElem?_eq_some_iff.1 hoj; exact h.symm
        have e3 : effs[i]? = some (effs[i]'(by omega)) := by simp
        have e4 : effs[j]? = some (effs[j]'(by omega)) := by simp
        simp only [e3, e4, Option.getD_some]
        subst e1 e2
        exact h7)
    l 0 (Array.replicate L.length false) { st with gen := st.gen + 1 } (fun j hj => by rw [hLe]; simp [List.getElem?_append_left hj]) (by simp) (by simp) (fun j hj => by simp at hj; simp [hj]) (LW.toLL _ _ _ h4)
  have hrn : Rel c S at_ { st with gen := st.gen + 1 } a w := { hr with gen := fun g d hg => hr.gen g d (by have hg' : st.gen + 1 < g := hg; omega), env := hr.env, al := hr.al, ok := hr.ok, own := hr.own, dis := hr.dis }
  have hfin := Lq.sound hlast hed (fun j => by rw [hLe]; simp only [List.getElem?_toArray]; rw [List.getElem?_append_right (by omega), Nat.add_sub_cancel_left]) (fun o ho => by simpa using List.all_eq_true.1 hg o ho) _ _ _ hb S at_ a _ (hrn.same (w' := { w with drawn := w.drawn + 1 }) rfl { hr.below with })
  simpa [hLl] using hfin
end
section
variable {c : Ctx} {ops : Array Oper} {Q : Exit → Act → World → Prop} {x : Nat → Eff} {n : Nat}
theorem getD_ft {l : Array Bool} {j : Nat} (h : j < l.size) : l.getD j false = l.getD j true := by simp [h]
theorem dc_of {listed : Array Bool} {p : Nat → Bool} (hs : listed.size = ops.size) (hls : ∀ j, j < ops.size → listed.getD j true = p j) (hp : ∀ j o, ops[j]? = some o → p j = true → ∀ e ∈ o.after, Region.binds .any e = true → e.on < ops.size ∧ p e.on = true) : Dc ops listed := fun j o hj hl e he hb => by
  have hjl := (Array.getElem?_eq_some_iff.1 hj).1
  rw [getD_ft (by omega), hls j hjl] at hl
  obtain ⟨h1, h2⟩ := hp j o hj hl e he hb
  rw [getD_ft (by omega), hls _ h1]; exact h2
theorem unready {listed : Array Bool} (hd : Dc ops listed) {j i : Nat} (ha : Anc ops j i) (hi : listed.getD i false = false) : j ∉ Region.ready .any ops listed := fun hj => by
  obtain ⟨_, oj, hoj, hall⟩ := mem_ready.1 hj
  have h4 := hd.anc ha (fun o ho e he hb => by rw [hoj] at ho; cases ho; exact hall e he hb)
  rw [h4] at hi; cases hi
theorem ready_un {listed : Array Bool} {i : Nat} (hi : i ∈ Region.ready .any ops listed) : i < ops.size ∧ listed.getD i true = false := by
  obtain ⟨h1, o, ho, _⟩ := mem_ready.1 hi
  exact ⟨(Array.getElem?_eq_some_iff.1 ho).1, h1⟩
/-- Operations i of n, and operation n + 1, which nothing binds, come in any order; operation n behind the first n, all others behind all. -/
def Lf (c : Ctx) (ops : Array Oper) (Q : Exit → Act → World → Prop) (x : Nat → Eff) (n : Nat) (A B : Act → World → Prop) : Nat → Array Bool → St → Prop
  | 0, listed, st => (listed.size = ops.size ∧ ∀ j, j < ops.size → listed.getD j true = (decide (j < n) || decide (j = n + 1))) ∧ Tr c st A
  | f + 1, listed, st => Region.ready .any ops listed ≠ [] ∧ ∀ i ∈ Region.ready .any ops listed, i ≤ n + 1 ∧ (i ≠ n → (∀ o, ops[i]? = some o → Loc c ops o st (x i)) ∧ Lf c ops Q x n A B f (listed.setIfInBounds i true) ((x i).put st)) ∧ (i = n → f = 0 ∧ (listed.size = ops.size ∧ ∀ j, j < ops.size → listed.getD j true = decide (j < n)) ∧ Tr c st B)
structure Flo (ops : Array Oper) (n : Nat) (o4 o5 : Oper) (tl : List Oper) : Prop where
  at4 : ops[n]? = some o4
  tail : ∀ j, (o5 :: tl)[j]? = ops[n + 1 + j]?
  anc : ∀ j i, n + 2 ≤ j → i < j → j < ops.size → Anc ops j i
  anc4 : ∀ i, i < n → Anc ops n i
  edge : ∀ j o, ops[j]? = some o → ∀ e ∈ o.after, Region.binds .any e = true → e.on < j
  free : o5.after = #[]
  gd4 : o4.guard = none
  gd : ∀ o ∈ o5 :: tl, o.guard = none
theorem Flo.at5 {o4 o5 : Oper} {tl : List Oper} (h : Flo ops n o4 o5 tl) : ops[n + 1]? = some o5 := by simpa using (h.tail 0).symm
theorem Flo.dcA {o4 o5 : Oper} {tl : List Oper} (h : Flo ops n o4 o5 tl) {listed : Array Bool} (hs : listed.size = ops.size) (hls : ∀ j, j < ops.size → listed.getD j true = (decide (j < n) || decide (j = n + 1))) : Dc ops listed := dc_of hs hls fun j o hj hp e he hb => by
  have h1 := h.edge j o hj e he hb
  have h2 := (Array.getElem?_eq_some_iff.1 hj).1
  simp only [Bool.or_eq_true, decide_eq_true_eq] at hp
  rcases hp with hp | hp
  · exact ⟨by omega, by simp; omega⟩
  · subst hp; rw [h.at5] at hj; cases hj; rw [h.free] at he; simp at he
theorem Flo.dcB {o4 o5 : Oper} {tl : List Oper} (h : Flo ops n o4 o5 tl) {listed : Array Bool} {k : Nat} (hs : listed.size = ops.size) (hls : ∀ j, j < ops.size → listed.getD j true = decide (j < k)) : Dc ops listed := dc_of hs hls fun j o hj hp e he hb => by
  have h1 := h.edge j o hj e he hb
  have h2 := (Array.getElem?_eq_some_iff.1 hj).1
  simp only [decide_eq_true_eq] at hp
  exact ⟨by omega, by simp; omega⟩
theorem set_is {listed : Array Bool} {k : Nat} {p q : Nat → Bool} (hk : k < ops.size) (hs : listed.size = ops.size) (hls : ∀ j, j < ops.size → listed.getD j true = p j) (hq : ∀ j, q j = (p j || decide (j = k))) : (listed.setIfInBounds k true).size = ops.size ∧ ∀ j, j < ops.size → (listed.setIfInBounds k true).getD j true = q j := by
  refine ⟨by simpa using hs, fun j hj => ?_⟩
  by_cases hjk : k = j
  · subst hjk; have : k < listed.size := by omega
    simp [this, hq]
  · rw [getD_set_ne true hjk, hls j hj, hq, decide_eq_false (fun h => hjk h.symm), Bool.or_false]
theorem Flo.seqB {F : Fence} {N : Nat} {P : Program} {o4 o5 : Oper} {tl : List Oper} (h : Flo ops n o4 o5 tl) {listed : Array Bool} {a : Act} {w : World} (hs : listed.size = ops.size) (hls : ∀ j, j < ops.size → listed.getD j true = decide (j < n + 1)) (hw : wpListIn F N P ops Q (o5 :: tl) a w) : wpAnyIn F N P .any ops Q (tl.length + 1) listed a w :=
  seqTail (last := n + 1) (fun j i h1 h2 h3 => h.anc j i (by omega) h2 h3) h.edge (o5 :: tl) (n + 1) listed a w (Nat.le_refl _) h.tail h.gd hs hls hw
theorem wp_cons {F : Fence} {N : Nat} {P : Program} {o : Oper} {l : List Oper} {a : Act} {w : World} (hg : o.guard = none) (hw : wpListIn F N P ops Q (o :: l) a w) : o.wpIn F N P a w (wpListIn F N P ops Q l) Q := by
  unfold wpListIn at hw
  rw [if_pos (by simp [Region.wanted, hg])] at hw
  exact hw
theorem wp_at {F : Fence} {N : Nat} {P : Program} {o : Oper} {i : Nat} {K : Act → World → Prop} {a : Act} {w : World} (ho : ops[i]? = some o) (hg : o.guard = none) (hw : o.wpIn F N P a w K Q) : wpOpIn F N P ops Q i K a w := by
  unfold wpOpIn
  simp only [ho]
  rw [if_pos (by simp [Region.wanted, hg])]
  exact hw
theorem Flo.seqA {F : Fence} {N : Nat} {P : Program} {o4 o5 : Oper} {tl : List Oper} (h : Flo ops n o4 o5 tl) {listed : Array Bool} {a : Act} {w : World} (hs : listed.size = ops.size) (hls : ∀ j, j < ops.size → listed.getD j true = (decide (j < n) || decide (j = n + 1))) (hw : wpListIn F N P ops Q (o4 :: tl) a w) : wpAnyIn F N P .any ops Q (tl.length + 1) listed a w := by
  have hn : n < ops.size := (Array.getElem?_eq_some_iff.1 h.at4).1
  have hd := h.dcA hs hls
  have hln : listed.getD n false = false := by rw [getD_ft (by omega), hls n hn]; simp
  have hnr : n ∈ Region.ready .any ops listed := mem_ready.2 ⟨by rw [hls n hn]; simp, o4, h.at4, fun e he hb => by
    have h1 := h.edge n o4 h.at4 e he hb
    rw [getD_ft (by omega), hls _ (by omega)]; simp [h1]⟩
  refine ⟨fun h0 => (by rw [h0] at hnr; cases hnr), fun i hi => ?_⟩
  have hin : i = n := by
    obtain ⟨hlt, h1⟩ := ready_un hi
    rw [hls i hlt] at h1
    simp at h1
    by_cases h2 : i = n
    · exact h2
    · exact absurd hi (unready hd (h.anc i n (by omega) (by omega) hlt) hln)
  subst hin
  refine wp_at h.at4 h.gd4 (Oper.wpIn_mono (fun a w hq => ?_) (wp_cons h.gd4 hw))
  obtain ⟨h1, h2⟩ := set_is (q := fun j => decide (j < i + 2)) hn hs hls (fun j => by
    by_cases e1 : j < i <;> by_cases e2 : j = i + 1 <;> by_cases e3 : j = i <;> simp [e1, e2, e3] <;> omega)
  exact seqTail (last := i + 2) (fun j k h1 h2 h3 => h.anc j k (by omega) h2 h3) h.edge tl (i + 2) _ a w (Nat.le_refl _) (fun j => by have := h.tail (j + 1); rw [show i + 1 + (j + 1) = i + 2 + j by omega] at this; simpa using this) (fun o ho => h.gd o (by simp [ho])) h1 h2 hq
theorem Lf.sound {o4 o5 : Oper} {tl : List Oper} (hf : Flo ops n o4 o5 tl) : ∀ (f : Nat) (listed : Array Bool) (st : St), Lf c ops Q x n (wpListIn (Fn c.frs.rd) 0 c.P ops Q (o4 :: tl)) (wpListIn (Fn c.frs.rd) 0 c.P ops Q (o4 :: o5 :: tl)) f listed st → ∀ S at_ a w, Rel c S at_ st a w → wpAnyIn (Fn c.frs.rd) 0 c.P .any ops Q (f + (tl.length + 1)) listed a w
  | 0, listed, st, ⟨⟨hs, hls⟩, h⟩, S, at_, a, w, hr => by
    rw [Nat.zero_add]
    exact hf.seqA hs hls (h S at_ a w hr)
  | f + 1, listed, st, h, S, at_, a, w, hr => by
    rw [show f + 1 + (tl.length + 1) = (f + (tl.length + 1)) + 1 by omega]
    refine ⟨fun h0 => absurd h0 h.1, fun i hi => ?_⟩
    obtain ⟨_, h1, h2⟩ := h.2 i hi
    by_cases hin : i = n
    · subst hin
      obtain ⟨rfl, ⟨hs, hls⟩, hB⟩ := h2 rfl
      have hn : i < ops.size := (Array.getElem?_eq_some_iff.1 hf.at4).1
      refine wp_at hf.at4 hf.gd4 (Oper.wpIn_mono (fun a w hq => ?_) (wp_cons hf.gd4 (hB S at_ a w hr)))
      obtain ⟨h3, h4⟩ := set_is (q := fun j => decide (j < i + 1)) hn hs hls (fun j => by
        by_cases e1 : j < i <;> by_cases e3 : j = i <;> simp [e1, e3] <;> omega)
      rw [Nat.zero_add]
      exact hf.seqB h3 h4 hq
    · obtain ⟨h1, h2⟩ := h1 hin
      obtain ⟨_, o, ho, _⟩ := mem_ready.1 hi
      unfold wpOpIn
      simp only [ho]
      have h3 := (h1 o ho).run st (St.alike.refl ..) S at_ a w hr (wpAnyIn (Fn c.frs.rd) 0 c.P .any ops Q (f + (tl.length + 1)) (listed.setIfInBounds i true)) Q (fun S' at' a' w' hr' => Lf.sound hf f _ _ h2 S' at' a' w' hr')
      split
      · rename_i hw; rw [if_pos hw] at h3; exact h3
      · rename_i hw; rw [if_neg hw] at h3; exact ⟨fun _ _ => trivial, h3⟩
theorem Lf.first {o4 o5 : Oper} {tl : List Oper} {A B : Act → World → Prop} (hf : Flo ops n o4 o5 tl) {i : Nat} (hil : i < n) {oi : Oper} (hi : ops[i]? = some oi) : ∀ (f : Nat) (listed : Array Bool) (st : St), Dc ops listed →
    (∀ j, j ≠ i → listed.getD j true = false → Anc ops j i ∨ Apt ops x i j) → i ∈ Region.ready .any ops listed → Loc c ops oi st (x i) → Lf c ops Q x n A B f (listed.setIfInBounds i true) ((x i).put st) → Lf c ops Q x n A B (f + 1) listed st := by
  have hun : ∀ (listed : Array Bool), Dc ops listed → i ∈ Region.ready .any ops listed → ∀ j, j ∈ Region.ready .any ops listed → ¬ Anc ops j i := fun listed hd hr j hj ha => by
    obtain ⟨_, h2⟩ := ready_un hr
    have : listed.getD i false = false := by
      rcases Nat.lt_or_ge i listed.size with h' | h'
      · rw [getD_ft h', h2]
      · simp [Array.getElem?_eq_none h']
    exact unready hd ha this hj
  have hfar : ∀ (listed : Array Bool), Dc ops listed → i ∈ Region.ready .any ops listed → ∀ j, j ∈ Region.ready .any ops listed → j ≤ n + 1 ∧ j ≠ n := fun listed hd hr j hj => by
    have h0 := hun listed hd hr j hj
    have hlt := (ready_un hj).1
    constructor
    · rcases Nat.lt_or_ge j (n + 2) with h1 | h1
      · omega
      · exact absurd (hf.anc j i h1 (by omega) hlt) h0
    · intro e; subst e; exact h0 (hf.anc4 i hil)
  intro f
  induction f with
  | zero =>
    intro listed st hd _ hr hl H
    refine ⟨fun h => (by rw [h] at hr; cases hr), fun j hj => ?_⟩
    obtain ⟨hf1, hf2⟩ := hfar listed hd hr j hj
    refine ⟨hf1, fun _ => ?_, fun e => absurd e hf2⟩
    by_cases hji : j = i
    · subst hji; exact ⟨fun o ho => by rw [hi] at ho; cases ho; exact hl, H⟩
    · have hjr := ready_mono hj hji
      obtain ⟨hlt, h1⟩ := ready_un hjr
      rw [H.1.2 j hlt] at h1
      simp at h1
      exact absurd h1 (by omega)
  | succ f ih =>
    intro listed st hd hfree hr hl H
    refine ⟨fun h => (by rw [h] at hr; cases hr), fun j hj => ?_⟩
    obtain ⟨hf1, hf2⟩ := hfar listed hd hr j hj
    refine ⟨hf1, fun _ => ?_, fun e => absurd e hf2⟩
    by_cases hji : j = i
    · subst hji; exact ⟨fun o ho => by rw [hi] at ho; cases ho; exact hl, H⟩
    · obtain ⟨_, h12, _⟩ := H.2 j (ready_mono hj hji)
      obtain ⟨h1, h2⟩ := h12 hf2
      obtain ⟨hjun, oj, hoj, hall⟩ := mem_ready.1 hj
      obtain ⟨hap, hsig⟩ := (hfree j hji hjun).resolve_left (hun listed hd hr j hj) oi oj hi hoj
      obtain ⟨a1, a2, a3⟩ := Oper.apart_spec hap
      obtain ⟨s1, s2⟩ := sigApart_spec hsig
      have k1 : ∀ p ∈ (x i).wr, ∀ k ∈ (x j).rd, p.2.1 ≠ k.2 := fun p hp k hk e => (s1 p.2.1 (List.mem_map_of_mem hp)).1 (e ▸ List.mem_map_of_mem hk)
      have k2 : ∀ p ∈ (x i).wr, ∀ q ∈ (x j).wr, p.2.1 ≠ q.2.1 := fun p hp q hq e => (s1 p.2.1 (List.mem_map_of_mem hp)).2 (e ▸ List.mem_map_of_mem hq)
      have k3 : ∀ p ∈ (x j).wr, ∀ k ∈ (x i).rd, p.2.1 ≠ k.2 := fun p hp k hk e => s2 p.2.1 (List.mem_map_of_mem hp) (e ▸ List.mem_map_of_mem hk)
      have hlj := h1 oj hoj
      have hlj' : Loc c ops oj st (x j) := hlj.of_alike (put_alike (fun d hd' => a1 d (hl.dst ▸ hd')) k1).symm
      refine ⟨fun o ho => by rw [hoj] at ho; cases ho; exact hlj', ?_⟩
      refine ih (listed.setIfInBounds j true) _ (hd.set hj) (fun k hki hun' => ?_) (ready_mono hr (Ne.symm hji)) (hl.of_alike (put_alike (fun d hd' => a3 d (hlj.dst ▸ hd')) k3)) ?_
      · refine hfree k hki ?_
        by_cases hjk : j = k
        · subst hjk; exact hjun
        · rw [getD_set_ne true hjk] at hun'; exact hun'
      · rw [Array.setIfInBounds_comm _ _ hji, ← put_comm (fun d hd' => by rw [hlj.dst]; exact a2 d (hl.dst ▸ hd')) k2]
        exact h2
/-- The text's walk of the first n, and what is to be shown behind it. -/
def Lg (c : Ctx) (ops : Array Oper) (x : Nat → Eff) (n : Nat) (A B : Act → World → Prop) (o5 : Oper) : Nat → St → List Oper → Prop
  | _, st, [] => Loc c ops o5 st (x (n + 1)) ∧ Tr c ((x (n + 1)).put st) A ∧ Tr c st B
  | k, st, o :: l => Loc c ops o st (x k) ∧ Lg c ops x n A B o5 (k + 1) ((x k).put st) l
theorem Lg.all {o4 o5 : Oper} {tl : List Oper} {A B : Act → World → Prop} (hf : Flo ops n o4 o5 tl) (hpair : ∀ i j, i < j → j < n ∨ j = n + 1 → i ≠ n → Anc ops j i ∨ Apt ops x i j) :
    ∀ (l : List Oper) (k : Nat) (listed : Array Bool) (st : St), (∀ j, j < l.length → l[j]? = ops[k + j]?) → k + l.length = n → listed.size = ops.size → (∀ j, j < ops.size → listed.getD j true = decide (j < k)) → Lg c ops x n A B o5 k st l → Lf c ops Q x n A B (l.length + 1) listed st
  | [], k, listed, st, _, hk, hs, hls, h => by
    have hk' : k = n := by simpa using hk
    subst hk'
    have hn4 := (Array.getElem?_eq_some_iff.1 hf.at4).1
    have hn5 := (Array.getElem?_eq_some_iff.1 hf.at5).1
    have hd := hf.dcB hs hls
    have h5 : k + 1 ∈ Region.ready .any ops listed := mem_ready.2 ⟨by rw [hls _ hn5]; simp, o5, hf.at5, fun e he hb => by rw [hf.free] at he; simp at he⟩
    refine ⟨fun h0 => (by rw [h0] at h5; cases h5), fun i hi => ?_⟩
    obtain ⟨hlt, h1⟩ := ready_un hi
    rw [hls i hlt] at h1
    simp at h1
    refine ⟨?_, fun hin => ?_, fun _ => ⟨rfl, ⟨hs, hls⟩, h.2.2⟩⟩
    · rcases Nat.lt_or_ge i (k + 2) with h2 | h2
      · omega
      · exact absurd hi (unready hd (hf.anc i k h2 (by omega) hlt) (by rw [getD_ft (by omega), hls k hn4]; simp))
    · have hi1 : i = k + 1 := by
        rcases Nat.lt_or_ge i (k + 2) with h2 | h2
        · omega
        · exact absurd hi (unready hd (hf.anc i k h2 (by omega) hlt) (by rw [getD_ft (by omega), hls k hn4]; simp))
      subst hi1
      refine ⟨fun o ho => by rw [hf.at5] at ho; cases ho; exact h.1, ?_, h.2.1⟩
      exact set_is hn5 hs hls (fun j => rfl)
  | o :: l, k, listed, st, hl, hk, hs, hls, h => by
    have h0 : ops[k]? = some o := by simpa using (hl 0 (by simp)).symm
    have hklt := (Array.getElem?_eq_some_iff.1 h0).1
    simp only [List.length_cons] at hk
    have hkr : k ∈ Region.ready .any ops listed := mem_ready.2 ⟨by rw [hls k hklt]; simp, o, h0, fun e he hb => by
      have h1 := hf.edge k o h0 e he hb
      rw [getD_ft (by omega), hls _ (by omega)]; simp [h1]⟩
    refine Lf.first hf (by omega) h0 (l.length + 1) listed st (hf.dcB hs hls) (fun j hjk hun => ?_) hkr h.1 ?_
    · have hjs : j < ops.size := by
        rcases Nat.lt_or_ge j listed.size with h' | h'
        · omega
        · simp [Array.getElem?_eq_none h'] at hun
      rw [hls j hjs] at hun
      simp at hun
      by_cases h1 : j < n ∨ j = n + 1
      · exact hpair k j (by omega) h1 (by omega)
      · by_cases h2 : j = n
        · subst h2; exact .inl (hf.anc4 k (by omega))
        · exact .inl (hf.anc j k (by omega) (by omega) hjs)
    · obtain ⟨h3, h4⟩ := set_is (q := fun j => decide (j < k + 1)) hklt hs hls (fun j => by
        by_cases e1 : j < k <;> by_cases e3 : j = k <;> simp [e1, e3] <;> omega)
      exact Lg.all hf hpair l (k + 1) _ _ (fun j hj => by have := hl (j + 1) (by simpa using hj); simpa [Nat.add_assoc, Nat.add_comm 1 j] using this) (by omega) h3 h4 h.2
/-- What is left to be shown behind the first operations: with the free one, and without. -/
def FloE (c : Ctx) (ops : Array Oper) (Q : Exit → Act → World → Prop) (pre : List Oper) (o4 o5 : Oper) (tl : List Oper) (log : List Eff) (st : St) : Prop :=
  (∃ x, Loc c ops o5 st x ∧ drawOk (pre ++ [o5]).toArray ((x :: log).reverse.map Eff.sig) = true ∧ Tr c (x.put st) (wpListIn (Fn c.frs.rd) 0 c.P ops Q (o4 :: tl))) ∧ Tr c st (wpListIn (Fn c.frs.rd) 0 c.P ops Q (o4 :: o5 :: tl))
theorem DE.list {E : List Eff → St → Prop} : ∀ (l : List Oper) (log : List Eff) (st : St), DE c ops E log st l → ∃ (effs : List Eff) (st' : St), effs.length = l.length ∧ E (effs.reverse ++ log) st' ∧ ∀ (x : Nat → Eff) (k : Nat) (A B : Act → World → Prop) (o5 : Oper), (∀ j y, effs[j]? = some y → x (k + j) = y) → Loc c ops o5 st' (x (n + 1)) → Tr c ((x (n + 1)).put st') A → Tr c st' B → Lg c ops x n A B o5 k st l
  | [], log, st, h => ⟨[], st, rfl, h, fun x k A B o5 _ h1 h2 h3 => ⟨h1, h2, h3⟩⟩
  | o :: l, log, st, ⟨y, hy, h⟩ => by
    obtain ⟨effs, st', h1, h2, h3⟩ := DE.list l (y :: log) _ h
    refine ⟨y :: effs, st', by simp [h1], by simpa using h2, fun x k A B o5 hx h4 h5 h6 => ?_⟩
    have hk : x k = y := hx 0 y rfl
    rw [Lg, hk]
    exact ⟨hy, h3 x (k + 1) A B o5 (fun j z hz => by have := hx (j + 1) z (by simpa using hz); rw [← this]; congr 1; omega) h4 h5 h6⟩
def floOk (L : List Oper) (n : Nat) : Bool := (List.range n).all (fun i => ((ancT L []).getD n 0).testBit i) && lastOk L (n + 2) && edgesOk L 0
theorem cutN_len : ∀ {n : Nat} {L : List Oper}, (cutN n L).1.length ≤ n
  | 0, _ => Nat.le_refl 0
  | _ + 1, [] => Nat.zero_le _
  | n + 1, o :: L => by rw [cutN]; exact Nat.succ_le_succ cutN_len
/-- Apartness does not hang on the region, where nothing has a guard. -/
theorem looksAt_free {o : Oper} {a b : Array Oper} (h : o.guard = none) : o.looksAt a = o.looksAt b := by
  unfold Oper.looksAt
  rw [h]
theorem apart_free {o o' : Oper} {a b : Array Oper} (h : o.guard = none) (h' : o'.guard = none) (hh : o.apart a o' = true) : o.apart b o' = true := by
  unfold Oper.apart at *
  rw [looksAt_free (a := b) (b := a) h, looksAt_free (a := b) (b := a) h']
  exact hh
end
section
variable {c : Ctx} {Q : Exit → Act → World → Prop}
theorem Anc.to {ops ops' : Array Oper} {n : Nat} (he : ∀ j o, ops'[j]? = some o → ∀ e ∈ o.after, Region.binds .any e = true → e.on < j) (hs : ∀ k, k < n → ops'[k]? = ops[k]?) {j i : Nat} (h : Anc ops' j i) : j < n → Anc ops j i := by
  induction h with
  | one hj hm hb => exact fun hl => .one (by rw [← hs _ hl]; exact hj) hm hb
  | more hj hm hb _ ih => exact fun hl => .more (by rw [← hs _ hl]; exact hj) hm hb (ih (Nat.lt_trans (he _ _ hj _ hm hb) hl))
theorem TrC.drawFlo {id : Nat} {L pre tl : List Oper} {o4 o5 : Oper} {st : St} (hm : c.P.follows .mixedOrders = true) (hLe : L = pre ++ o4 :: o5 :: tl) (hl : floOk L pre.length = true) (hfr : o5.after = #[]) (hg : L.all (·.guard.isNone) = true) (h : (∀ d, st.obj (st.gen + 1) d = .none) → DE c L.toArray (FloE c L.toArray Q pre o4 o5 tl) [] { st with gen := st.gen + 1 } pre) : TrC c st (.region id L.toArray true) Q := fun S at_ a w hr => by
  refine wpIn_region_any hm ?_
  obtain ⟨effs, st', h1, ⟨⟨xf, h2, h3, h4⟩, h5⟩, h6⟩ := DE.list (n := pre.length) pre [] _ (h fun d => hr.gen _ d (Nat.lt_succ_self _))
  simp only [floOk, Bool.and_eq_true] at hl
  obtain ⟨⟨hl1, hl2⟩, hl3⟩ := hl
  have hLl : L.length = pre.length + (tl.length + 2) := by rw [hLe]; simp
  have htab := ancT_spec (ops := L.toArray) L [] (by simp) (by simp)
  have htl : (ancT L []).length = L.length := by simpa using ancT_len L []
  have hgd : ∀ (j : Nat) (hj : j < L.length), (ancT L []).getD j 0 = (ancT L [])[j]'(by omega) := fun j hj => by
    rw [List.getD_eq_getElem?_getD, List.getElem?_eq_getElem (by omega)]; rfl
  have hgo : ∀ o ∈ L, o.guard = none := fun o ho => by simpa using List.all_eq_true.1 hg o ho
  have hflo : Flo L.toArray pre.length o4 o5 tl :=
    { at4 := by rw [hLe]; simp
      tail := fun j => by
        rw [hLe]; simp only [List.getElem?_toArray]
        rw [List.getElem?_append_right (by omega), show pre.length + 1 + j - pre.length = j + 1 by omega]
        simp
      anc := fun j i hj hi hjs => by
        have hjs' : j < L.length := by simpa using hjs
        have h7 := List.all_eq_true.1 hl2 j (List.mem_range.2 hjs')
        rw [decide_eq_false (by omega), Bool.false_or] at h7
        have h7 := List.all_eq_true.1 h7 i (List.mem_range.2 hi)
        rw [hgd j hjs'] at h7
        exact htab j _ (List.getElem?_eq_getElem (by omega)) i h7
      anc4 := fun i hi => by
        have h7 := List.all_eq_true.1 hl1 i (List.mem_range.2 hi)
        rw [hgd _ (by omega)] at h7
        exact htab _ _ (List.getElem?_eq_getElem (by omega)) i h7
      edge := fun j o hj e he hb => by have := edgesOk_spec _ _ hl3 j o (by simpa using hj) e he hb; omega
      free := hfr
      gd4 := hgo o4 (by rw [hLe]; simp)
      gd := fun o ho => hgo o (by rw [hLe]; simp only [List.mem_append, List.mem_cons]; simp only [List.mem_cons] at ho; exact .inr (.inr ho)) }
  have hLp : ∀ k, k < pre.length → L[k]? = pre[k]? := fun k hk => by rw [hLe, List.getElem?_append_left hk]
  simp only [drawOk, Bool.and_eq_true] at h3
  obtain ⟨_, h8⟩ := h3
  have hed' : ∀ j o, (pre ++ [o5])[j]? = some o → ∀ e ∈ o.after, Region.binds .any e = true → e.on < j := fun j o hj e he hb => by
    rcases Nat.lt_or_ge j pre.length with h | h
    · rw [List.getElem?_append_left h, ← hLp j h] at hj
      exact hflo.edge j o (by simpa using hj) e he hb
    · rw [List.getElem?_append_right h] at hj
      have hz : j - pre.length = 0 := by
        rcases Nat.eq_zero_or_pos (j - pre.length) with h | h
        · exact h
        · rw [List.getElem?_eq_none (by simp; omega)] at hj; cases hj
      rw [hz] at hj; simp at hj; subst hj
      rw [hfr] at he; simp at he
  have htab' := ancT_spec (ops := (pre ++ [o5]).toArray) (pre ++ [o5]) [] (by simp) (by simp)
  have htl' : (ancT (pre ++ [o5]) []).length = pre.length + 1 := by simpa using ancT_len (pre ++ [o5]) []
  let x : Nat → Eff := fun i => if i < pre.length then (effs[i]?).getD default else xf
  have hx5 : x (pre.length + 1) = xf := by simp only [x]; rw [if_neg (by omega)]
  have hsg : ((xf :: (effs.reverse ++ [])).reverse.map Eff.sig) = (effs ++ [xf]).map Eff.sig := by simp
  rw [hsg] at h8
  have hpair : ∀ i j, i < j → j < pre.length ∨ j = pre.length + 1 → i ≠ pre.length → Anc L.toArray j i ∨ Apt L.toArray x i j := fun i j hij hj hin => by
    have hil : i < pre.length := by omega
    -- the place in the shorter list
    obtain ⟨k, hk, hik, hkj⟩ : ∃ k, k ≤ pre.length ∧ i < k ∧ (k < pre.length ∧ k = j ∨ k = pre.length ∧ j = pre.length + 1) := by
      rcases hj with hj | hj
      · exact ⟨j, by omega, hij, .inl ⟨hj, rfl⟩⟩
      · exact ⟨pre.length, Nat.le_refl _, hil, .inr ⟨rfl, hj⟩⟩
    have g1 : ∀ m (hm : m < pre.length + 1), ((pre ++ [o5]).zip (((effs ++ [xf]).map Eff.sig).zip (ancT (pre ++ [o5]) [])))[m]? = some ((pre ++ [o5])[m]'(by simp; omega), ((effs ++ [xf])[m]'(by simp; omega)).sig, (ancT (pre ++ [o5]) [])[m]'(by omega)) := fun m hm => by
      simp only [List.getElem?_zip_eq_some, List.getElem?_map]
      refine ⟨List.getElem?_eq_getElem (by simp; omega), ?_, List.getElem?_eq_getElem (by omega)⟩
      rw [List.getElem?_eq_getElem (by simp; omega)]; rfl
    have h9 := pairsOk_spec _ _ h8 i k _ _ hik (g1 i (by omega)) (g1 k (by omega))
    rw [Nat.zero_add] at h9
    rcases h9 with h9 | h9
    · have h10 := htab' k _ (List.getElem?_eq_getElem (by omega)) i h9
      rcases hkj with ⟨hkl, rfl⟩ | ⟨rfl, rfl⟩
      · exact .inl (Anc.to (n := pre.length) (fun j o hj => hed' j o (by simpa using hj)) (fun m hm => by simp only [List.getElem?_toArray]; rw [List.getElem?_append_left hm, hLp m hm]) h10 hkl)
      · exfalso
        cases h10 with
        | one hj he hb => simp at hj; subst hj; rw [hfr] at he; simp at he
        | more hj he hb _ => simp at hj; subst hj; rw [hfr] at he; simp at he
    · refine .inr fun oi oj hoi hoj => ?_
      have hoi' : oi ∈ L := by simp at hoi; exact List.mem_of_getElem? hoi
      have hoj' : oj ∈ L := by simp at hoj; exact List.mem_of_getElem? hoj
      have e1 : (pre ++ [o5])[i]'(by simp; omega) = oi := by
        have h11 : L[i]? = some oi := by simpa using hoi
        rw [hLp i hil, List.getElem?_eq_getElem hil] at h11
        rw [List.getElem_append_left hil]; exact Option.some.inj h11
      have e3 : (effs ++ [xf])[i]'(by simp; omega) = x i := by
        simp only [x]; rw [if_pos hil, List.getElem_append_left (by omega), List.getElem?_eq_getElem (by omega)]; rfl
      have e24 : (pre ++ [o5])[k]'(by simp; omega) = oj ∧ (effs ++ [xf])[k]'(by simp; omega) = x j := by
        rcases hkj with ⟨hkl, rfl⟩ | ⟨rfl, rfl⟩
        · refine ⟨?_, ?_⟩
          · have h11 : L[k]? = some oj := by simpa using hoj
            rw [hLp k hkl, List.getElem?_eq_getElem hkl] at h11
            rw [List.getElem_append_left hkl]; exact Option.some.inj h11
          · simp only [x]; rw [if_pos hkl, List.getElem_append_left (by omega), List.getElem?_eq_getElem (by omega)]; rfl
        · refine ⟨?_, ?_⟩
          · have h11 := hflo.at5.symm.trans hoj
            simp; exact Option.some.inj h11
          · rw [hx5, List.getElem_append_right (by omega)]; simp [h1]
      rw [e1, e3, e24.1, e24.2] at h9
      exact ⟨apart_free (hgo _ hoi') (hgo _ hoj') h9.1, h9.2⟩
  have hLg := h6 x 0 (wpListIn (Fn c.frs.rd) 0 c.P L.toArray Q (o4 :: tl)) (wpListIn (Fn c.frs.rd) 0 c.P L.toArray Q (o4 :: o5 :: tl)) o5 (fun j y hy => by
    have hjl : j < effs.length := (List.getElem?_eq_some_iff.1 hy).1
    simp only [x, Nat.zero_add]; rw [if_pos (by omega), hy]; rfl) (by rw [hx5]; exact h2) (by rw [hx5]; exact h4) h5
  have hb := Lg.all (Q := Q) hflo hpair pre 0 (Array.replicate L.length false) { st with gen := st.gen + 1 } (fun j hj => by simp only [List.getElem?_toArray]; rw [Nat.zero_add, hLp j hj]) (by omega) (by simp) (fun j hj => by simp at hj; simp [hj]) hLg
  have hrn : Rel c S at_ { st with gen := st.gen + 1 } a w := { hr with gen := fun g d hg => hr.gen g d (by have hg' : st.gen + 1 < g := hg; omega), env := hr.env, al := hr.al, ok := hr.ok, own := hr.own, dis := hr.dis }
  have hfin := Lf.sound hflo _ _ _ hb S at_ a _ (hrn.same (w' := { w with drawn := w.drawn + 1 }) rfl { hr.below with })
  rw [show pre.length + 1 + (tl.length + 1) = L.length by omega] at hfin
  simpa using hfin
end
section
variable {P : Program} {w0 : World} {S0 : Nat → Prop} {nt : Nat} {frs : Frs} {e : Nat → V} {ob : Nat → Nat → Ob} {g : Nat} {Q : Exit → Act → World → Prop} {ops : Array Oper}
theorem p_drawLast (n : Nat) {id : Nat} {L l tl : List Oper} [hm : MixC P] (hL : cutN n L = (l, tl) := by exact rfl) (hl : lastOk L l.length = true := by kernel_rfl) (hg : tl.all (·.guard.isNone) = true := by exact rfl) (h : (∀ d, ob (g + 1) d = .none) → Wk (.draw []) ⟨P, w0, S0, nt, frs⟩ L.toArray (LastQ ⟨P, w0, S0, nt, frs⟩ L.toArray Q tl) ⟨e, ob, g + 1⟩ l) : TrC ⟨P, w0, S0, nt, frs⟩ ⟨e, ob, g⟩ (.region id L.toArray true) Q :=
  TrC.drawLast (st := ⟨e, ob, g⟩) hm.h (by have := cutN_eq (n := n) (L := L); rw [hL] at this; exact this) hl hg h
theorem p_lastOp {tl : List Oper} (h : Wk .lex ⟨P, w0, S0, nt, frs⟩ ops Q ⟨e, ob, g⟩ tl) : Tr ⟨P, w0, S0, nt, frs⟩ ⟨e, ob, g⟩ (LastQ ⟨P, w0, S0, nt, frs⟩ ops Q tl .normal) := h
/-- The first n operations, and the one behind operation n, in any order; operation n behind the n; the rest behind all. -/
theorem p_drawFlo (n : Nat) {id : Nat} {L pre tl : List Oper} {o4 o5 : Oper} [hm : MixC P] (hL : cutN n L = (pre, o4 :: o5 :: tl) := by exact rfl) (hl : floOk L pre.length = true := by kernel_rfl) (hfr : o5.after = #[] := by exact rfl) (hg : L.all (·.guard.isNone) = true := by exact rfl) (h : (∀ d, ob (g + 1) d = .none) → Wk (.flo (FloE ⟨P, w0, S0, nt, frs⟩ L.toArray Q pre o4 o5 tl) []) ⟨P, w0, S0, nt, frs⟩ L.toArray Q ⟨e, ob, g + 1⟩ pre) : TrC ⟨P, w0, S0, nt, frs⟩ ⟨e, ob, g⟩ (.region id L.toArray true) Q :=
  TrC.drawFlo (st := ⟨e, ob, g⟩) hm.h (by have := cutN_eq (n := n) (L := L); rw [hL] at this; exact this) hl hfr hg h
/-- What is to be shown behind the first n: with the free one, then without. -/
theorem p_flo {pre tl : List Oper} {o4 o5 : Oper} {log : List Eff} (hA : Wk (.flo (fun log st => drawOk (pre ++ [o5]).toArray (log.reverse.map Eff.sig) = true ∧ Tr ⟨P, w0, S0, nt, frs⟩ st (wpListIn (Fn frs.rd) 0 P ops Q (o4 :: tl))) log) ⟨P, w0, S0, nt, frs⟩ ops Q ⟨e, ob, g⟩ [o5]) (hB : Tr ⟨P, w0, S0, nt, frs⟩ ⟨e, ob, g⟩ (LastQ ⟨P, w0, S0, nt, frs⟩ ops Q (o4 :: o5 :: tl) .normal)) : Wk (.flo (FloE ⟨P, w0, S0, nt, frs⟩ ops Q pre o4 o5 tl) log) ⟨P, w0, S0, nt, frs⟩ ops Q ⟨e, ob, g⟩ [] := by
  obtain ⟨x, h1, h2, h3⟩ := hA
  exact ⟨⟨x, h1, h2, h3⟩, hB⟩
theorem p_floEnd {pre tl : List Oper} {o4 o5 : Oper} {log : List Eff} (hd : drawOk (pre ++ [o5]).toArray (log.reverse.map Eff.sig) = true := by kernel_rfl) (h : Tr ⟨P, w0, S0, nt, frs⟩ ⟨e, ob, g⟩ (LastQ ⟨P, w0, S0, nt, frs⟩ ops Q (o4 :: tl) .normal)) : Wk (.flo (fun log st => drawOk (pre ++ [o5]).toArray (log.reverse.map Eff.sig) = true ∧ Tr ⟨P, w0, S0, nt, frs⟩ st (wpListIn (Fn frs.rd) 0 P ops Q (o4 :: tl))) log) ⟨P, w0, S0, nt, frs⟩ ops Q ⟨e, ob, g⟩ [] := ⟨hd, h⟩
/-- One generation further on, where nothing lies yet. -/
theorem p_bump {l : List Oper} (h : (∀ d, ob (g + 1) d = .none) → Wk .lex ⟨P, w0, S0, nt, frs⟩ ops Q ⟨e, ob, g + 1⟩ l) : Wk .lex ⟨P, w0, S0, nt, frs⟩ ops Q ⟨e, ob, g⟩ l := fun S at_ a w hr => by
  have hr' : Rel ⟨P, w0, S0, nt, frs⟩ S at_ ⟨e, ob, g + 1⟩ a w := { hr with gen := fun g' d hg => hr.gen g' d (Nat.lt_trans (Nat.lt_succ_self g) hg), env := hr.env, al := hr.al, ok := hr.ok, own := hr.own, dis := hr.dis }
  exact h (fun d => hr.gen (g + 1) d (Nat.lt_succ_self g)) S at_ a w hr'
/-- Ways that meet again, with what stays. -/
theorem p_joinK {x y : Code} {vs : List V} {us : List Ob} (ks : List Nat) (os : List (Nat × Nat)) (J : St → Prop) (h1 : TrC ⟨P, w0, S0, nt, frs⟩ ⟨e, ob, g⟩ x (Exit.then (Some ⟨P, w0, S0, nt, frs⟩ fun st => (valsE st.env ks = vs ∧ valsO st.obj os = us) ∧ J st) Q)) (h2 : ∀ e' ob' g', valsE e' ks = vs → valsO ob' os = us → J ⟨e', ob', g'⟩ → TrC ⟨P, w0, S0, nt, frs⟩ ⟨e', ob', g'⟩ y Q) (hvs : valsE e ks = vs := by simp (decide := true) only [valsE, evE, upd, cv, args0, argsFrom, List.length_map, ↓reduceIte, hE] <;> rfl) (hus : valsO ob os = us := by simp (decide := true) only [valsO, updO, upd, true_and, and_true, false_and, and_false, ↓reduceIte, hE] <;> rfl) : TrC ⟨P, w0, S0, nt, frs⟩ ⟨e, ob, g⟩ (.seq x y) Q :=
  p_join _ h1 fun e' ob' g' h => h2 e' ob' g' h.1.1 h.1.2 h.2
/-- Ahead of a rule that speaks of the state alone; p_lastOp leads back. -/
theorem p_bare {l : List Oper} (h : Tr ⟨P, w0, S0, nt, frs⟩ ⟨e, ob, g⟩ (LastQ ⟨P, w0, S0, nt, frs⟩ ops Q l .normal)) : Wk .lex ⟨P, w0, S0, nt, frs⟩ ops Q ⟨e, ob, g⟩ l := h
end
end Go.Proofs.YtjjpmbaddpiamaaDoor
/-
  The abstract machine: calls that work in place on some objects, told by a relation.
-/
set_option linter.unusedSimpArgs false
set_option linter.unusedVariables false
namespace Go.Proofs.YtjjpmbaddpiamaaDoor
open Go.RowKit
/-- What lies below a generation is as it was, but for some objects. -/
def LowQ (g : Nat) (ks : List (Nat × Nat)) (ob o : Nat → Nat → Ob) : Prop := ∀ g0 d0, g0 ≤ g → (g0, d0) ∉ ks → o g0 d0 = ob g0 d0
theorem LowQ.refl {g : Nat} {ks : List (Nat × Nat)} {ob : Nat → Nat → Ob} : LowQ g ks ob ob := fun _ _ _ _ => rfl
theorem LowQ.up {g g2 d2 : Nat} {ks : List (Nat × Nat)} {ob o : Nat → Nat → Ob} {v : Ob} (h : LowQ g ks ob o) (hg : g < g2) : LowQ g ks ob (updO o g2 d2 v) := fun g0 d0 h0 h1 => by
  rw [updO, if_neg (by omega)]; exact h g0 d0 h0 h1
theorem LowQ.at_ {g g2 d2 : Nat} {ks : List (Nat × Nat)} {ob o : Nat → Nat → Ob} {v : Ob} (h : LowQ g ks ob o) (hm : (g2, d2) ∈ ks) : LowQ g ks ob (updO o g2 d2 v) := fun g0 d0 h0 h1 => by
  rw [updO, if_neg (fun e => h1 (by rw [e.1, e.2]; exact hm))]; exact h g0 d0 h0 h1
theorem LowQ.trans {g g1 : Nat} {ks ks1 : List (Nat × Nat)} {ob o o1 : Nat → Nat → Ob} (h : LowQ g ks ob o) (h1 : LowQ g1 ks1 o o1) (hg : g ≤ g1) (hk : ∀ k ∈ ks1, k ∈ ks ∨ g < k.1) : LowQ g ks ob o1 := fun g0 d0 h0 hm => by
  rw [h1 g0 d0 (by omega) (fun h2 => by
    rcases hk _ h2 with h3 | h3
    · exact hm h3
    · exact absurd h3 (by simp only; omega))]
  exact h g0 d0 h0 hm
theorem LowQ.vals {g : Nat} {ks : List (Nat × Nat)} {ob o : Nat → Nat → Ob} (h : LowQ g ks ob o) : ∀ {os : List (Nat × Nat)} {us : List Ob}, (∀ k ∈ os, k.1 ≤ g ∧ k ∉ ks) → valsO ob os = us → valsO o os = us
  | [], _, _, hv => hv
  | k :: os, us, hk, hv => by
    subst hv
    obtain ⟨h1, h2⟩ := hk k (by simp)
    rw [valsO, valsO, h k.1 k.2 h1 h2, LowQ.vals h (os := os) (fun k' hk' => hk k' (by simp [hk'])) rfl]
section
variable {c : Ctx} {st : St} {o : Oper} {d : Nat}
theorem Stp.nilChk {x : Operand} {g e p : Nat} (hd : o.dst = some d) (hn : d < c.nt) (hop : o.op = .nilCheck x) (hx : st.ev x = .ptr g e p) : Stp c o st (st.put d (.ptr g e p)) :=
  Stp.val hd hn fun S at_ a w hr => by
    have h1 := hr.ev x
    rw [hx, VR] at h1
    obtain ⟨b, h2, h3⟩ := h1
    refine ⟨_, by simp only [execOp, hop, h3, Sem.run_bind, Sem.run_pure, Result.andThen]; rfl, ?_⟩
    rw [VR]
    exact ⟨b, h2, rfl⟩
theorem Stp.idxStr {t : TypeId} {x y : Operand} {s : ByteArray} {k : IntKind} {i : Int} {j : Nat} (hd : o.dst = some d) (hn : d < c.nt) (hop : o.op = .index t x y) (ht : c.P.underlying t = some .string) (hx : st.ev x = .str s) (hy : st.ev y = .int k i) (hij : i = (j : Int)) (hj : j < s.size) : Stp c o st (st.put d (.int .u8 (s[j].toNat : Int))) :=
  Stp.val hd hn fun S at_ a w hr => by
    have h1 := hr.ev x
    have h2 := hr.ev y
    rw [hx, VR, RL] at h1
    rw [hy, VR, RL] at h2
    subst hij
    refine ⟨_, ?_, by rw [VR, RL]⟩
    have hs : s[j]? = some s[j] := getElem?_pos s j hj
    simp [execOp, hop, Instr.index, h1, h2, asIntOf, run_underlying ht, hs]
end
def FnQ (P : Program) (f : FuncId) (args : List V) (ks : List (Nat × Nat)) (us : List Ob) (R : V → List Ob → Prop) : Prop :=
  ∃ fn code nt, HasBody P f fn code ∧ fn.ntmps = nt ∧ args.length ≤ nt ∧ ∀ w0 S0 l ob g K, valsO ob ks = us → (∀ k ∈ ks, k.1 ≤ g) → (∀ r o g', g ≤ g' → LowQ g ks ob o → R r (valsO o ks) → K r o g') → TrC ⟨P, w0, S0, nt, ⟨l, [], none⟩⟩ ⟨args0 args, ob, g⟩ code (RetE ⟨P, w0, S0, nt, ⟨l, [], none⟩⟩ fn K)
theorem FnQ.of {P : Program} {f : FuncId} {fn : Func} {code : Code} {nt : Nat} {args : List V} {ks : List (Nat × Nat)} {us : List Ob} {R : V → List Ob → Prop} (hb : HasBody P f fn code) (hnt : fn.ntmps = nt) (hle : args.length ≤ nt)
    (h : ∀ w0 S0 l ob g K, valsO ob ks = us → (∀ k ∈ ks, k.1 ≤ g) → (∀ r o g', g ≤ g' → LowQ g ks ob o → R r (valsO o ks) → K r o g') → TrC ⟨P, w0, S0, nt, ⟨l, [], none⟩⟩ ⟨args0 args, ob, g⟩ code (RetE ⟨P, w0, S0, nt, ⟨l, [], none⟩⟩ fn K)) : FnQ P f args ks us R := ⟨fn, code, nt, hb, hnt, hle, h⟩
theorem FnQ.mono {P : Program} {f : FuncId} {args : List V} {ks : List (Nat × Nat)} {us : List Ob} {R R' : V → List Ob → Prop} (h : FnQ P f args ks us R) (hR : ∀ r vs, R r vs → R' r vs) : FnQ P f args ks us R' := by
  obtain ⟨fn, code, nt, h1, h2, h3, h4⟩ := h
  exact ⟨fn, code, nt, h1, h2, h3, fun w0 S0 l ob g K hv hk hK => h4 w0 S0 l ob g K hv hk fun r o g' hg hl hr => hK r o g' hg hl (hR r _ hr)⟩
section
variable {P : Program} {w0 : World} {S0 : Nat → Prop} {nt : Nat} {frs : Frs} {e : Nat → V} {ob : Nat → Nat → Ob} {g : Nat} {Q : Exit → Act → World → Prop} {ops : Array Oper} {rest : List Oper} {d : Nat} {ty : TypeId} {pos : String} {aft : Array Edge} {m : Md}
theorem p_callQ (os : List (Nat × Nat)) {x : Operand} {f : FuncId} {xs : List Operand} {ts : Array TypeId} {args : List V} {ks : List (Nat × Nat)} {us us' : List Ob} {R : V → List Ob → Prop} (hm : m = .lex := by exact rfl) (hn : d < nt := by decide) (hx : evE e x = .fn f [] := by simp (decide := true) only [evE, upd, cv, args0, argsFrom, List.length_map, ↓reduceIte, hE] <;> rfl) (hus : xs.map (evE e) = args := by simp (decide := true) only [List.map_cons, List.map_nil, List.cons_append, List.nil_append, List.append_nil, evE, upd, updO, cv, args0, List.getElem?_cons_zero, List.getElem?_cons_succ, Option.getD_some, List.length_map, ↓reduceIte, hE] <;> rfl)
    (hf : FnQ P f args ks us R) (hrow : valsO ob ks = us := by simp (decide := true) only [valsO, updO, upd, true_and, and_true, false_and, and_false, ↓reduceIte, hE] <;> rfl) (hg : ∀ k ∈ ks, k.1 ≤ g) (hos : ∀ k ∈ os, k.1 ≤ g ∧ k ∉ ks) (hv : valsO ob os = us' := by simp (decide := true) only [valsO, updO, upd, true_and, and_true, false_and, and_false, ↓reduceIte, hE] <;> rfl)
    (h : ∀ r o g', g ≤ g' → LowQ g ks ob o → valsO o os = us' → R r (valsO o ks) → Wk .lex ⟨P, w0, S0, nt, frs⟩ ops Q ⟨upd e d r, o, g'⟩ rest) : Wk m ⟨P, w0, S0, nt, frs⟩ ops Q ⟨e, ob, g⟩ (⟨some d, .call { callee := .value x, args := xs.toArray, argTypes := ts }, ty, pos, aft, none⟩ :: rest) := by
  obtain ⟨fn, code, nt', hb, hnt, hle, hbody⟩ := hf
  refine p_enter (cap := []) (args := args) hb hnt hm hn hx (by rw [List.append_nil]; exact hus) hle fun a0 => ?_
  exact hbody w0 S0 _ ob g _ hrow hg fun r o g' hg' hlow hR => h r o g' hg' hlow (hlow.vals hos hv) hR
theorem p_nilChk {g1 d1 p : Nat} {x : Operand} (hn : d < nt := by decide) (hx : evE e x = .ptr g1 d1 p := by simp (decide := true) only [evE, upd, cv, args0, argsFrom, List.length_map, ↓reduceIte, hE] <;> rfl) (h : Wk (m.log ⟨some (d, (.ptr g1 d1 p)), [], []⟩) ⟨P, w0, S0, nt, frs⟩ ops Q ⟨upd e d (.ptr g1 d1 p), ob, g⟩ rest) : Wk m ⟨P, w0, S0, nt, frs⟩ ops Q ⟨e, ob, g⟩ (⟨some d, .nilCheck x, ty, pos, aft, none⟩ :: rest) :=
  Wk.op (Loc.plain rfl rfl fun st' hv' ho' hg => Stp.nilChk rfl hn rfl ((hv' x (by simp [Op.operands, Call.operands])).trans ((evE_eq e ob g x).trans hx))) h
theorem p_idxStr {t : TypeId} {x y : Operand} {s : ByteArray} {k : IntKind} {i : Int} (j : Nat) (hn : d < nt := by decide) (ht : P.underlying t = some .string) (hx : evE e x = .str s := by simp (decide := true) only [evE, upd, cv, args0, argsFrom, List.length_map, ↓reduceIte, hE] <;> rfl) (hy : evE e y = .int k i := by simp (decide := true) only [evE, upd, cv, args0, argsFrom, List.length_map, ↓reduceIte, hE] <;> rfl) (hij : i = (j : Int)) (hj : j < s.size) (h : Wk (m.log ⟨some (d, (.int .u8 (s[j].toNat : Int))), [], []⟩) ⟨P, w0, S0, nt, frs⟩ ops Q ⟨upd e d (.int .u8 (s[j].toNat : Int)), ob, g⟩ rest) : Wk m ⟨P, w0, S0, nt, frs⟩ ops Q ⟨e, ob, g⟩ (⟨some d, .index t x y, ty, pos, aft, none⟩ :: rest) :=
  Wk.op (Loc.plain rfl rfl fun st' hv' ho' hg => Stp.idxStr rfl hn rfl ht ((hv' x (by simp [Op.operands, Call.operands])).trans ((evE_eq e ob g x).trans hx)) ((hv' y (by simp [Op.operands, Call.operands])).trans ((evE_eq e ob g y).trans hy)) hij hj) h
/-- A store of a struct into a row that is told by a list. -/
theorem p_storeRowMA {α : Type} {t t' i g1 d1 : Nat} {x y : Operand} {l : List α} {f : α → V} (v : α) {cs : List V} {z : Value} {size bytes : Nat} (hi : TI P t z size bytes) (hc : P.cellsOf t' = size) (hx : evE e x = .rptr t' g1 d1 i 0 := by simp (decide := true) only [evE, upd, cv, args0, argsFrom, List.length_map, ↓reduceIte, hE] <;> rfl) (ho : ob g1 d1 = .row t' (l.map f) := by simp (decide := true) only [updO, upd, true_and, and_true, false_and, and_false, ↓reduceIte, hE] <;> first | rfl | assumption) (hlt : i < l.length) (hy : evE e y = .agg cs := by simp (decide := true) only [evE, upd, cv, args0, argsFrom, List.length_map, ↓reduceIte, hE] <;> rfl) (hf : f v = .agg cs := by exact rfl) (hro : (V.agg cs).ro = true := by exact rfl) (hsz : cs.length = size := by exact rfl)
    (h : Wk (m.log ⟨none, [(g1, d1, (.row t' ((l.set i v).map f)))], [(g1, d1)]⟩) ⟨P, w0, S0, nt, frs⟩ ops Q ⟨e, updO ob g1 d1 (.row t' ((l.set i v).map f)), g⟩ rest) : Wk m ⟨P, w0, S0, nt, frs⟩ ops Q ⟨e, ob, g⟩ (⟨none, .store t x y, ty, pos, aft, none⟩ :: rest) := by
  refine p_storeRow hi hc hx ho (by simpa using hlt) hy (.inr ⟨_, rfl⟩) hro hsz ?_
  rw [← hf, ← List.map_set]; exact h
variable {fn : Func} {K : V → (Nat → Nat → Ob) → Nat → Prop}
end
end Go.Proofs.YtjjpmbaddpiamaaDoor
/-
  The abstract machine: maps of the call's own whose values are told as values of frames are; keys of any sort.
-/
set_option linter.unusedSimpArgs false
set_option linter.unusedVariables false
namespace Go.Proofs.YtjjpmbaddpiamaaDoor
open Go.RowKit
section keys
variable {P : Program} {w : World} {kt : TypeId}
/-- A key's type. -/
def KeyC (P : Program) (kt : TypeId) : MK → Prop
  | .int _ => P.underlying kt = some (.int .i64)
  | .str _ => P.underlying kt = some .string
  | .pair _ => PairT P kt
  | .tup l => IntStruct P kt (List.replicate l.length .i64)
theorem IntFields.len : ∀ {off : Nat} {fs : List Field} {ks : List IntKind}, IntFields P off fs ks → fs.length = ks.length
  | _, [], [], _ => rfl
  | _, [], _ :: _, h => h.elim
  | _, _ :: _, [], h => h.elim
  | off, f :: fs, k :: ks, h => by rw [List.length_cons, List.length_cons, IntFields.len h.2.2.2]
theorem IntStruct.len {ks ks' : List IntKind} (h : IntStruct P kt ks) (h' : IntStruct P kt ks') : ks.length = ks'.length := by
  obtain ⟨fs, h1, _, _, h2⟩ := h
  obtain ⟨fs', h3, _, _, h4⟩ := h'
  rw [h1] at h3
  cases h3
  rw [← h2.len, h4.len]
theorem intVs_self {S : Nat → Prop} {at_ : At} : ∀ ms : List Int, VRs P w S at_ (intVs (List.replicate ms.length .i64) ms) (ms.map (Value.int .i64))
  | [] => by simp [intVs, VRs]
  | m :: ms => by
    rw [List.length_cons, List.replicate_succ, intVs, List.map_cons, VRs]
    exact ⟨by rw [VR, RL], intVs_self ms⟩
theorem tup_eq {ms ns : List Int} (h1 : IntStruct P kt (List.replicate ms.length .i64)) (h2 : IntStruct P kt (List.replicate ns.length .i64)) : (Op.equal kt (MK.tup ms).val (MK.tup ns).val).run P w = .ok (decide (ms = ns)) w := by
  have hl : ms.length = ns.length := by simpa using h1.len h2
  exact equal_ints (S := fun _ => True) (at_ := fun _ _ => none) h1 (by simp) (by simp [hl]) (by simpa using intVs_self ms) (by rw [hl]; simpa using intVs_self ns)
theorem tup_same (l : List Int) : Instr.sameBits 10000 (MK.tup l).val (MK.tup l).val = true := by
  simp [MK.val, Instr.sameBits]
  intro a b h
  rw [List.zip_map'] at h
  obtain ⟨n, _, h2⟩ := List.mem_map.1 h
  cases h2
  simp [Instr.sameBits]
theorem fields_check (e : Bool) (n : Nat) (xs : Array Value) : ∀ (fs : List Field) (ks : List IntKind) (off : Nat), IntFields P off fs ks → (∀ j, j < ks.length → ∃ m, xs[off + j]? = some (.int .i64 m)) →
    (forIn fs PUnit.unit (fun (f : Field) (_ : PUnit) => (do
      if f.name ≠ "_" then
        let x ← part f.type xs f.offset
        Instr.checkKey e (n + 1) f.type x
        pure (ForInStep.yield PUnit.unit)
      else pure (ForInStep.yield PUnit.unit) : Sem (ForInStep PUnit)))).run P w = .ok PUnit.unit w
  | [], _, _, _, _ => by simp
  | f :: fs, [], _, h, _ => h.elim
  | f :: fs, k :: ks, off, ⟨h1, h2, h3, h4⟩, hx => by
    have ih := fields_check e n xs fs ks (off + 1) h4 (fun j hj => by obtain ⟨m, hm⟩ := hx (j + 1) (by simpa using hj); exact ⟨m, by rwa [show off + 1 + j = off + (j + 1) by omega]⟩)
    obtain ⟨m, hm⟩ := hx 0 (by simp)
    have hlf : IsLeaf P f.type := ⟨_, h3, rfl⟩
    have hp : (part f.type xs f.offset).run P w = .ok (.int .i64 m) w := by
      have hm' : xs[off]? = some (.int .i64 m) := by simpa using hm
      simp [part, isAgg_leaf hlf, h2, hm']
    have h1' : f.name ≠ "_" := by simpa using h1
    have hc : (Instr.checkKey e (n + 1) f.type (.int .i64 m)).run P w = .ok () w := by
      rw [Instr.checkKey]; simp [run_underlying h3]
    rw [List.forIn_cons]
    simp only [if_pos h1', Sem.run_bind, hp, hc, Result.andThen_ok, Sem.run_pure]
    exact ih
theorem tup_check {ms : List Int} (h : IntStruct P kt (List.replicate ms.length .i64)) (e : Bool) : (Instr.checkKey e 10000 kt (MK.tup ms).val).run P w = .ok () w := by
  obtain ⟨fs, h1, _, _, h2⟩ := h
  have := fields_check (w := w) e 9998 (ms.map (Value.int .i64)).toArray fs.toList _ 0 h2 (fun j hj => by
    rw [List.length_replicate] at hj
    exact ⟨ms[j], by simp [hj]⟩)
  rw [MK.val, Instr.checkKey]
  simp only [Sem.run_bind, run_underlying h1, Result.andThen_ok]
  simp at this ⊢
  rw [this]; rfl
theorem find_gen {ok : MK → Prop} (heq : ∀ k q, ok k → ok q → ∀ w, (Op.equal kt k.val q.val).run P w = .ok (decide (k = q)) w) {β : Type} (ev : β → Value) (k : MK) (hk : ok k) : ∀ (es : List MapEntry) (l : List (MK × β)) (n : Nat), (∀ p ∈ l, ok p.1) → es.map (fun e => (e.key, e.val)) = l.map (fun p => (p.1.val, ev p.2)) →
    ((Instr.findAsking kt k.val es n).run P w = .ok none w ∧ mget k l = none) ∨ ∃ i v, (Instr.findAsking kt k.val es n).run P w = .ok (some (n + i, ev v)) w ∧ l[i]? = some (k, v) ∧ mget k l = some v ∧ ∀ u, mput k u l = l.set i (k, u)
  | [], [], n, _, _ => .inl ⟨by simp [Instr.findAsking], rfl⟩
  | [], _ :: _, n, _, h => by simp at h
  | _ :: _, [], n, _, h => by simp at h
  | e :: es, (q, u) :: l, n, ho, hl => by
    simp only [List.map_cons, List.cons.injEq, Prod.mk.injEq] at hl
    obtain ⟨⟨hq, hv⟩, ht⟩ := hl
    have hd := heq k q hk (ho _ (List.mem_cons_self ..)) w
    by_cases e1 : k = q
    · right
      refine ⟨0, u, ?_, ?_, ?_, ?_⟩
      · subst e1
        rw [Instr.findAsking, hq]
        simp only [decide_true] at hd
        simp [hd, hv]
      · simp [e1]
      · simp [mget, e1]
      · intro v; simp [mput, e1]
    · have hf : (Instr.findAsking kt k.val (e :: es) n).run P w = (Instr.findAsking kt k.val es (n + 1)).run P w := by
        rw [Instr.findAsking, hq]; simp [hd, e1]
      rcases find_gen heq ev k hk es l (n + 1) (fun p hp => ho p (List.mem_cons_of_mem _ hp)) ht with ⟨h1, h2⟩ | ⟨i, v, h1, h2, h3, h4⟩
      · left
        exact ⟨by rw [hf]; exact h1, by simp [mget, e1, h2]⟩
      · right
        refine ⟨i + 1, v, by rw [hf, h1]; simp [Nat.add_assoc, Nat.add_comm 1 i], by simpa using h2, by simp [mget, e1, h3], fun v => by simp [mput, e1, h4 v]⟩
theorem now_gen {kind : TypeDesc} {ok : MK → Prop} (hs : ∀ a b, ok a → ok b → Instr.sameNow kind a.val b.val = some (decide (a = b))) {β : Type} (ev : β → Value) (k : MK) (hk : ok k) :
    ∀ (es : List MapEntry) (l : List (MK × β)) (n : Nat), (∀ p ∈ l, ok p.1) → es.map (fun e => (e.key, e.val)) = l.map (fun p => (p.1.val, ev p.2)) →
    (Instr.findNow kind k.val es n = some none ∧ mget k l = none) ∨ ∃ i v, Instr.findNow kind k.val es n = some (some (n + i, ev v)) ∧ l[i]? = some (k, v) ∧ mget k l = some v ∧ ∀ u, mput k u l = l.set i (k, u)
  | [], [], n, _, _ => .inl ⟨rfl, rfl⟩
  | [], _ :: _, _, _, h => by simp at h
  | _ :: _, [], _, _, h => by simp at h
  | e :: es, (q, u) :: l, n, ho, h => by
    simp only [List.map_cons, List.cons.injEq, Prod.mk.injEq] at h
    obtain ⟨⟨hq, hv⟩, ht⟩ := h
    have hd := hs k q hk (ho _ (List.mem_cons_self ..))
    by_cases e1 : k = q
    · right
      refine ⟨0, u, ?_, ?_, ?_, ?_⟩
      · rw [e1] at hd
        simp only [decide_true] at hd
        simp only [Instr.findNow, hq, e1, hd, hv, Nat.add_zero]
      · simp [e1]
      · simp [mget, e1]
      · intro v; simp [mput, e1]
    · have hf : Instr.findNow kind k.val (e :: es) n = Instr.findNow kind k.val es (n + 1) := by
        simp only [Instr.findNow, hq, hd, e1, decide_false]
      rcases now_gen hs ev k hk es l (n + 1) (fun p hp => ho p (List.mem_cons_of_mem _ hp)) ht with ⟨h1, h2⟩ | ⟨i, v, h1, h2, h3, h4⟩
      · left
        exact ⟨by rw [hf]; exact h1, by simp [mget, e1, h2]⟩
      · right
        refine ⟨i + 1, v, by rw [hf, h1]; simp [Nat.add_assoc, Nat.add_comm 1 i], by simpa using h2, by simp [mget, e1, h3], fun v => by simp [mput, e1, h4 v]⟩
/-- Keys of any sort, as the model searches for them. -/
def mkKey (P : Program) (kt : TypeId) : KeyT P kt MK where
  enc := MK.val
  ok := KeyC P kt
  check := fun e k w hk => by
    cases k with
    | int k => exact MapKept.run_checkKey (k := .int .i64 k) hk (by simp [MapKept.IsKey]) e 9999
    | str k => exact MapKept.run_checkKey (k := .string k) hk (by simp [MapKept.IsKey]) e 9999
    | pair k => exact (pairKey hk).check e k w trivial
    | tup l => exact tup_check hk e
  find := by
    intro β ev k es l w hk ho hl
    have hask : (∀ k q, KeyC P kt k → KeyC P kt q → ∀ w, (Op.equal kt k.val q.val).run P w = .ok (decide (k = q)) w) → (∀ e es', es = e :: es' → (Instr.findKey kt k.val (e :: es')).run P w = (Instr.findAsking kt k.val (e :: es') 0).run P w) → (es = [] → (Instr.findKey kt k.val []).run P w = .ok none w) →
        ((Instr.findKey kt k.val es).run P w = .ok none w ∧ mget k l = none) ∨ ∃ i v, (Instr.findKey kt k.val es).run P w = .ok (some (i, ev v)) w ∧ l[i]? = some (k, v) ∧ mget k l = some v ∧ ∀ u, mput k u l = l.set i (k, u) := fun heq hf h0 => by
      cases es with
      | nil =>
        cases l with
        | nil => exact .inl ⟨h0 rfl, rfl⟩
        | cons _ _ => simp at hl
      | cons e es =>
        rcases find_gen (w := w) heq ev k hk (e :: es) l 0 ho hl with ⟨h1, h2⟩ | ⟨i, v, h1, h2, h3, h4⟩
        · exact .inl ⟨by rw [hf e es rfl]; exact h1, h2⟩
        · rw [Nat.zero_add] at h1
          exact .inr ⟨i, v, by rw [hf e es rfl]; exact h1, h2, h3, h4⟩
    have hnow : ∀ kind, P.underlying kt = some kind → (∀ a b, KeyC P kt a → KeyC P kt b → Instr.sameNow kind a.val b.val = some (decide (a = b))) →
        ((Instr.findKey kt k.val es).run P w = .ok none w ∧ mget k l = none) ∨ ∃ i v, (Instr.findKey kt k.val es).run P w = .ok (some (i, ev v)) w ∧ l[i]? = some (k, v) ∧ mget k l = some v ∧ ∀ u, mput k u l = l.set i (k, u) := fun kind hkind hs => by
      rcases now_gen hs ev k hk es l 0 ho hl with ⟨h1, h2⟩ | ⟨i, v, h1, h2, h3, h4⟩
      · exact .inl ⟨MapKept.run_findKey hkind h1, h2⟩
      · exact .inr ⟨i, v, by rw [Nat.zero_add] at h1; exact MapKept.run_findKey hkind h1, h2, h3, h4⟩
    cases k with
    | int k =>
      have hu : P.underlying kt = some (.int .i64) := hk
      refine hnow _ hu fun a b ha hb => ?_
      cases a <;> simp only [KeyC, PairT, IntStruct, hu, Option.some.injEq, reduceCtorEq, false_and, exists_false] at ha
      cases b <;> simp only [KeyC, PairT, IntStruct, hu, Option.some.injEq, reduceCtorEq, false_and, exists_false] at hb
      simp [MK.val, Instr.sameNow]; rfl
    | str k =>
      have hu : P.underlying kt = some .string := hk
      refine hnow _ hu fun a b ha hb => ?_
      cases a <;> simp only [KeyC, PairT, IntStruct, hu, Option.some.injEq, reduceCtorEq, false_and, exists_false] at ha
      cases b <;> simp only [KeyC, PairT, IntStruct, hu, Option.some.injEq, reduceCtorEq, false_and, exists_false] at hb
      simp only [MK.val, Instr.sameNow]; congr 1; rw [Bool.eq_iff_iff, MapKept.bytes_beq]; simp
    | pair k =>
      have hk' : PairT P kt := hk
      obtain ⟨e, z, bytes, hu, h2, h3⟩ := hk'
      refine hask (fun a b ha hb w => ?_) (fun e es' he => ?_) (fun _ => by simp [Instr.findKey, run_underlying hu, Instr.findNow])
      · cases a <;> simp only [KeyC, IntStruct, hu, Option.some.injEq, reduceCtorEq, false_and, exists_false] at ha
        cases b <;> simp only [KeyC, IntStruct, hu, Option.some.injEq, reduceCtorEq, false_and, exists_false] at hb
        rename_i p q
        simpa [MK.val] using pair_eq (w := w) ha p q
      · cases l with
        | nil => subst he; simp at hl
        | cons p l =>
          subst he
          simp only [List.map_cons, List.cons.injEq, Prod.mk.injEq] at hl
          simp only [Instr.findKey, Sem.run_bind, run_underlying hu, Result.andThen_ok, Instr.findNow]
          have hp := ho p (List.mem_cons_self ..)
          rw [hl.1.1]
          cases hp1 : p.1 <;> rw [hp1] at hp <;> simp only [KeyC, IntStruct, hu, Option.some.injEq, reduceCtorEq, false_and, exists_false] at hp
          rfl
    | tup ms =>
      have hk' : IntStruct P kt _ := hk
      obtain ⟨fs, hu, h2, h3, h4⟩ := hk'
      refine hask (fun a b ha hb w => ?_) (fun e es' he => ?_) (fun _ => by simp [Instr.findKey, run_underlying hu, Instr.findNow])
      · cases a <;> simp only [KeyC, PairT, hu, Option.some.injEq, reduceCtorEq, false_and, exists_false] at ha
        cases b <;> simp only [KeyC, PairT, hu, Option.some.injEq, reduceCtorEq, false_and, exists_false] at hb
        rename_i p q
        simpa using tup_eq (w := w) ha hb
      · cases l with
        | nil => subst he; simp at hl
        | cons p l =>
          subst he
          simp only [List.map_cons, List.cons.injEq, Prod.mk.injEq] at hl
          simp only [Instr.findKey, Sem.run_bind, run_underlying hu, Result.andThen_ok, Instr.findNow]
          have hp := ho p (List.mem_cons_self ..)
          rw [hl.1.1]
          cases hp1 : p.1 <;> rw [hp1] at hp <;> simp only [KeyC, PairT, hu, Option.some.injEq, reduceCtorEq, false_and, exists_false] at hp
          rfl
  same := fun k => by
    cases k with
    | int k => simp [MK.val, Instr.sameBits]
    | str k => simp only [MK.val, Instr.sameBits]; exact (MapKept.bytes_beq k k).2 rfl
    | pair k => simp [MK.val, pairVal, Instr.sameBits]
    | tup l => exact tup_same l
end keys
/-- A slot's value that is a key. -/
def KeyV (u : V) (k : MK) : Prop := u.key = some k ∨ ∃ ns : List Int, u = .agg (ns.map (V.int .i64)) ∧ k = .tup ns
theorem VRs_ints {P : Program} {w : World} {S : Nat → Prop} {at_ : At} : ∀ (ns : List Int) (cs : List Value), VRs P w S at_ (ns.map (V.int .i64)) cs → cs = ns.map (Value.int .i64)
  | [], [], _ => rfl
  | [], _ :: _, h => by simp [VRs] at h
  | _ :: _, [], h => by simp [VRs] at h
  | n :: ns, c :: cs, h => by
    rw [List.map_cons, VRs, VR, RL] at h
    rw [h.1, VRs_ints ns cs h.2, List.map_cons]
theorem KeyV.val {P : Program} {w : World} {S : Nat → Prop} {at_ : At} {u : V} {k : MK} (h : KeyV u k) {x : Value} (hv : VR P w S at_ u x) : x = k.val := by
  rcases h with h | ⟨ns, rfl, rfl⟩
  · exact V.key_val h hv
  · rw [VR] at hv
    obtain ⟨arr, rfl, h2⟩ := hv
    have := VRs_ints _ _ h2
    rw [MK.val, ← this]
section
variable {P : Program} {w w' : World} {S S' : Nat → Prop} {at_ at' : At}
theorem split_keys : ∀ (l : List (MK × V)) (vals : List Value), VRs P w S at_ (l.map (·.2)) vals → ∃ l' : List (MK × Value), l'.map (·.1) = l.map (·.1) ∧ l'.map (·.2) = vals
  | [], [], _ => ⟨[], rfl, rfl⟩
  | [], _ :: _, h => by simp [VRs] at h
  | _ :: _, [], h => by simp [VRs] at h
  | p :: l, x :: vals, h => by
    rw [List.map_cons, VRs] at h
    obtain ⟨l', h1, h2⟩ := split_keys l vals h.2
    exact ⟨(p.1, x) :: l', by simp [h1], by simp [h2]⟩
theorem mget_rel (k : MK) : ∀ (l : List (MK × V)) (l' : List (MK × Value)), l'.map (·.1) = l.map (·.1) → VRs P w S at_ (l.map (·.2)) (l'.map (·.2)) → (mget k l = none ∧ mget k l' = none) ∨ ∃ v x, mget k l = some v ∧ mget k l' = some x ∧ VR P w S at_ v x
  | [], [], _, _ => .inl ⟨rfl, rfl⟩
  | [], _ :: _, h, _ => by simp at h
  | _ :: _, [], h, _ => by simp at h
  | p :: l, p' :: l', h, hv => by
    simp only [List.map_cons, List.cons.injEq] at h
    rw [List.map_cons, List.map_cons, VRs] at hv
    obtain ⟨q, v⟩ := p
    obtain ⟨q', x⟩ := p'
    obtain ⟨h1, h2⟩ := h
    dsimp only at h1
    subst h1
    by_cases e : k = q'
    · subst e
      exact .inr ⟨v, x, by simp [mget], by simp [mget], hv.1⟩
    · rcases mget_rel k l l' h2 hv.2 with ⟨a1, a2⟩ | ⟨v', x', a1, a2, a3⟩
      · exact .inl ⟨by simp [mget, e, a1], by simp [mget, e, a2]⟩
      · exact .inr ⟨v', x', by simp [mget, e, a1], by simp [mget, e, a2], a3⟩
theorem mput_rel (k : MK) {v : V} {x : Value} (hx : VR P w S at_ v x) : ∀ (l : List (MK × V)) (l' : List (MK × Value)), l'.map (·.1) = l.map (·.1) → VRs P w S at_ (l.map (·.2)) (l'.map (·.2)) → (mput k x l').map (·.1) = (mput k v l).map (·.1) ∧ VRs P w S at_ ((mput k v l).map (·.2)) ((mput k x l').map (·.2))
  | [], [], _, _ => ⟨rfl, by simp [mput, VRs, hx]⟩
  | [], _ :: _, h, _ => by simp at h
  | _ :: _, [], h, _ => by simp at h
  | p :: l, p' :: l', h, hv => by
    simp only [List.map_cons, List.cons.injEq] at h
    rw [List.map_cons, List.map_cons, VRs] at hv
    obtain ⟨q, u⟩ := p
    obtain ⟨q', y⟩ := p'
    obtain ⟨h1, h2⟩ := h
    dsimp only at h1
    subst h1
    by_cases e : k = q'
    · subst e
      exact ⟨by simp [mput, h2], by simp [mput, VRs, hx, hv.2]⟩
    · obtain ⟨a1, a2⟩ := mput_rel k hx l l' h2 hv.2
      exact ⟨by simp [mput, e, a1], by simp [mput, e, VRs, hv.1, a2]⟩
theorem entries_eq {arr : List MapEntry} {l : List (MK × V)} {l' : List (MK × Value)} (hk : arr.map (·.key) = l.map (·.1.val)) (h1 : l'.map (·.1) = l.map (·.1)) (h2 : l'.map (·.2) = arr.map (·.val)) : arr.map (fun e => (e.key, e.val)) = l'.map (fun p => (p.1.val, p.2)) := by
  have hk' : arr.map (·.key) = l'.map (·.1.val) := by
    rw [hk]
    have : l.map (·.1.val) = (l.map (·.1)).map MK.val := by simp
    rw [this, ← h1]; simp
  clear hk h1 l
  induction arr generalizing l' with
  | nil =>
    cases l' with
    | nil => rfl
    | cons _ _ => simp at hk'
  | cons e arr ih =>
    cases l' with
    | nil => simp at hk'
    | cons p l' =>
      simp only [List.map_cons, List.cons.injEq] at hk' h2 ⊢
      exact ⟨by rw [hk'.1, h2.1], ih h2.2 hk'.2⟩
end
section
variable {c : Ctx} {st : St} {o : Oper} {d : Nat}
theorem Stp.mvMake {t : TypeId} (hd : o.dst = some d) (hn : d < c.nt) (hop : o.op = .makeMap t none) (hnone : st.obj st.gen d = .none) : Stp c o st ((st.set st.gen d (.mv [])).put d (.map st.gen d)) :=
  Stp.fresh hd hn hnone rfl fun S at_ a w hr => by
    refine ⟨.map #[] 0, .map (some w.heap.size), .map (some w.heap.size), ?_, rfl, ⟨w.heap.size, #[], 0, rfl, heap_new w _, rfl, by simp [VRs]⟩, ?_⟩
    · simp [execOp, hop, Instr.makeMap]
    · rw [VR]; exact ⟨_, by simp [updA], rfl⟩
theorem Stp.mvLook {t kt el : TypeId} {x y : Operand} {ok : Bool} {g d1 : Nat} {l : List (MK × V)} {k : MK} {u v : V} {z : Value} {size bytes : Nat} (hd : o.dst = some d) (hn : d < c.nt) (hop : o.op = .lookup t x y ok) (ht : c.P.underlying t = some (.map kt el)) (hi : TI c.P el z size bytes) (hx : st.ev x = .map g d1) (ho : st.obj g d1 = .mv l) (hy : st.ev y = u) (hk : KeyV u k) (hkc : KeyC c.P kt k) (hlc : ∀ p ∈ l, KeyC c.P kt p.1)
    (hv : (if ok then .tup [(mget k l).getD (cw z), .bool (mget k l).isSome] else (mget k l).getD (cw z)) = v) : Stp c o st (st.put d v) :=
  Stp.val hd hn fun S at_ a w hr => by
    have h1 := hr.ev x
    have h2 := hr.ev y
    rw [hx, VR] at h1
    rw [hy] at h2
    obtain ⟨b, h3, h4⟩ := h1
    have h5 := hr.ok g d1 _ h3
    rw [ho] at h5
    obtain ⟨b', arr, clock, e, h6, h7, h8⟩ := h5
    cases e
    obtain ⟨l', e1, e2⟩ := split_keys l _ h8
    have hm : MapOf (mkKey c.P kt) (id : Value → Value) w b l' := ⟨arr, clock, h6, entries_eq h7 e1 e2, fun p hp => by
      have : p.1 ∈ l.map (·.1) := by rw [← e1]; exact List.mem_map_of_mem hp
      obtain ⟨q, hq, e⟩ := List.mem_map.1 this
      rw [← e]; exact hlc q hq⟩
    have hrun := hm.look ht (hi.zero w) k hkc ok
    rw [show (mkKey c.P kt).enc k = k.val from rfl, ← hk.val h2] at hrun
    refine ⟨_, by simp only [execOp, hop, h4, hrun, Sem.run_bind, Sem.run_pure, Result.andThen]; rfl, ?_⟩
    subst hv
    rw [← e2] at h8
    rcases mget_rel k l l' e1 h8 with ⟨a1, a2⟩ | ⟨v', x', a1, a2, a3⟩
    · rw [a1, a2]
      cases ok
      · exact VR_cw _
      · simp only [if_true]
        rw [VR]
        refine ⟨_, rfl, ?_⟩
        simp only [VRs]
        exact ⟨VR_cw _, by rw [VR, RL]; rfl, trivial⟩
    · rw [a1, a2]
      cases ok
      · exact a3
      · simp only [if_true]
        rw [VR]
        refine ⟨_, rfl, ?_⟩
        simp only [VRs]
        exact ⟨a3, by rw [VR, RL]; rfl, trivial⟩
theorem Stp.mvPut {t kt el : TypeId} {x y z : Operand} {g d1 : Nat} {l : List (MK × V)} {k : MK} {u v : V} (hd : o.dst = none) (hop : o.op = .mapUpdate t x y z ∨ o.op = .insert t x y z) (ht : c.P.underlying t = some (.map kt el)) (hx : st.ev x = .map g d1) (ho : st.obj g d1 = .mv l) (hy : st.ev y = u) (hk : KeyV u k) (hkc : KeyC c.P kt k) (hlc : ∀ p ∈ l, KeyC c.P kt p.1) (hz : st.ev z = v) : Stp c o st (st.set g d1 (.mv (mput k v l))) :=
  Stp.mem hd fun S at_ a w hr => by
    have h1 := hr.ev x
    have h2 := hr.ev y
    have h0 := hr.ev z
    rw [hx, VR] at h1
    rw [hy] at h2
    rw [hz] at h0
    obtain ⟨b, h3, h4⟩ := h1
    have h5 := hr.ok g d1 _ h3
    rw [ho] at h5
    obtain ⟨b', arr, clock, e, h6, h7, h8⟩ := h5
    cases e
    obtain ⟨l', e1, e2⟩ := split_keys l _ h8
    have hm : MapOf (mkKey c.P kt) (id : Value → Value) w b l' := ⟨arr, clock, h6, entries_eq h7 e1 e2, fun p hp => by
      have : p.1 ∈ l.map (·.1) := by rw [← e1]; exact List.mem_map_of_mem hp
      obtain ⟨q, hq, e⟩ := List.mem_map.1 this
      rw [← e]; exact hlc q hq⟩
    obtain ⟨w', k1, ⟨arr', clock', k2, k3, _⟩, k4, k5⟩ := hm.update ht k hkc (a.eval z)
    rw [show (mkKey c.P kt).enc k = k.val from rfl, ← hk.val h2, show id (a.eval z) = a.eval z from rfl] at k1
    rw [← e2] at h8
    obtain ⟨b1, b2⟩ := mput_rel k h0 l l' e1 h8
    obtain ⟨o1, o2, o3⟩ := hr.own g d1 _ b h3 (by rw [ho]; rfl) rfl
    have hkeys : arr'.toList.map (·.key) = (mput k v l).map (·.1.val) := by
      have := congrArg (List.map Prod.fst) k3
      simp only [List.map_map, Function.comp_def] at this
      rw [this]
      have e3 : (mput k v l).map (·.1.val) = ((mput k v l).map (·.1)).map MK.val := by simp
      rw [e3, ← b1]; simp; intro _ _ _; rfl
    have hvals : arr'.toList.map (·.val) = (mput k (a.eval z) l').map (·.2) := by
      have := congrArg (List.map Prod.snd) k3
      simpa only [List.map_map, Function.comp_def, id] using this
    refine ⟨S, at_, w', ?_, hr.write h3 (by rw [ho]; rfl) (b := b) rfl k4 k5 rfl ⟨b, arr', clock', rfl, k2, hkeys, ?_⟩ (by rw [ho]; simp)⟩
    · rcases hop with hop | hop <;> simp [execOp, hop, h4, k1, Result.andThen]
    · rw [hvals]
      exact VRs.mono (fun _ h => h) (fun b' hs => k4.block b' (hr.slt b' hs) (fun e => o3 (Option.some.inj e ▸ hs))) (fun _ _ _ h => h) _ _ b2
end
section
variable {P : Program} {w0 : World} {S0 : Nat → Prop} {nt : Nat} {frs : Frs} {e : Nat → V} {ob : Nat → Nat → Ob} {g : Nat} {Q : Exit → Act → World → Prop} {ops : Array Oper} {rest : List Oper} {d : Nat} {ty : TypeId} {pos : String} {aft : Array Edge} {m : Md}
theorem p_mvMake {t : TypeId} (hn : d < nt := by decide) (hf : ob g d = .none := by repeat (first | exact hf _ | with_reducible rfl | rw [updO_off (by decide)])) (h : Wk (m.log ⟨some (d, .map g d), [(g, d, .mv [])], [(g, d)]⟩) ⟨P, w0, S0, nt, frs⟩ ops Q ⟨upd e d (.map g d), updO ob g d (.mv []), g⟩ rest) : Wk m ⟨P, w0, S0, nt, frs⟩ ops Q ⟨e, ob, g⟩ (⟨some d, .makeMap t none, ty, pos, aft, none⟩ :: rest) :=
  Wk.op (Loc.plain rfl rfl fun st' hv' ho' hg => by
    obtain ⟨e', ob', g'⟩ := st'
    obtain rfl : g = g' := hg.symm
    exact Stp.mvMake (st := ⟨e', ob', g⟩) rfl hn rfl ((ho' (g, d) (by simp)).trans hf)) h
theorem p_mvLook {t kt el : TypeId} {x y : Operand} {ok : Bool} {g1 d1 : Nat} {l : List (MK × V)} {u v : V} {z : Value} {size bytes : Nat} (k : MK) (hn : d < nt := by decide) (ht : P.underlying t = some (.map kt el)) (hi : TI P el z size bytes) (hx : evE e x = .map g1 d1 := by simp (decide := true) only [evE, upd, cv, args0, argsFrom, List.length_map, ↓reduceIte, hE] <;> rfl) (ho : ob g1 d1 = .mv l := by simp (decide := true) only [updO, upd, true_and, and_true, false_and, and_false, ↓reduceIte, hE] <;> first | rfl | assumption) (hy : evE e y = u := by simp (decide := true) only [evE, upd, cv, args0, argsFrom, List.length_map, ↓reduceIte, hE] <;> rfl) (hk : KeyV u k) (hkc : KeyC P kt k) (hlc : ∀ p ∈ l, KeyC P kt p.1)
    (hv : (if ok then .tup [(mget k l).getD (cw z), .bool (mget k l).isSome] else (mget k l).getD (cw z)) = v) (h : Wk (m.log ⟨some (d, v), [], [(g1, d1)]⟩) ⟨P, w0, S0, nt, frs⟩ ops Q ⟨upd e d v, ob, g⟩ rest) : Wk m ⟨P, w0, S0, nt, frs⟩ ops Q ⟨e, ob, g⟩ (⟨some d, .lookup t x y ok, ty, pos, aft, none⟩ :: rest) :=
  Wk.op (Loc.plain rfl rfl fun st' hv' ho' _ => Stp.mvLook (st := st') rfl hn rfl ht hi ((hv' x (by simp [Op.operands])).trans ((evE_eq e ob g x).trans hx)) ((ho' (g1, d1) (by simp)).trans ho) ((hv' y (by simp [Op.operands])).trans ((evE_eq e ob g y).trans hy)) hk hkc hlc hv) h
theorem p_mvPut {t kt el : TypeId} {x y z : Operand} {g1 d1 : Nat} {l : List (MK × V)} {u v : V} (k : MK) (ht : P.underlying t = some (.map kt el)) (hx : evE e x = .map g1 d1 := by simp (decide := true) only [evE, upd, cv, args0, argsFrom, List.length_map, ↓reduceIte, hE] <;> rfl) (ho : ob g1 d1 = .mv l := by simp (decide := true) only [updO, upd, true_and, and_true, false_and, and_false, ↓reduceIte, hE] <;> first | rfl | assumption) (hy : evE e y = u := by simp (decide := true) only [evE, upd, cv, args0, argsFrom, List.length_map, ↓reduceIte, hE] <;> rfl) (hk : KeyV u k) (hkc : KeyC P kt k) (hlc : ∀ p ∈ l, KeyC P kt p.1) (hz : evE e z = v := by simp (decide := true) only [evE, upd, cv, args0, argsFrom, List.length_map, ↓reduceIte, hE] <;> rfl)
    (h : Wk (m.log ⟨none, [(g1, d1, .mv (mput k v l))], [(g1, d1)]⟩) ⟨P, w0, S0, nt, frs⟩ ops Q ⟨e, updO ob g1 d1 (.mv (mput k v l)), g⟩ rest) : Wk m ⟨P, w0, S0, nt, frs⟩ ops Q ⟨e, ob, g⟩ (⟨none, .mapUpdate t x y z, ty, pos, aft, none⟩ :: rest) :=
  Wk.op (Loc.plain rfl rfl fun st' hv' ho' _ => Stp.mvPut (st := st') rfl (.inl rfl) ht ((hv' x (by simp [Op.operands])).trans ((evE_eq e ob g x).trans hx)) ((ho' (g1, d1) (by simp)).trans ho) ((hv' y (by simp [Op.operands])).trans ((evE_eq e ob g y).trans hy)) hk hkc hlc ((hv' z (by simp [Op.operands])).trans ((evE_eq e ob g z).trans hz))) h
theorem p_mvIns {t kt el : TypeId} {x y z : Operand} {g1 d1 : Nat} {l : List (MK × V)} {u v : V} (k : MK) (ht : P.underlying t = some (.map kt el)) (hx : evE e x = .map g1 d1 := by simp (decide := true) only [evE, upd, cv, args0, argsFrom, List.length_map, ↓reduceIte, hE] <;> rfl) (ho : ob g1 d1 = .mv l := by simp (decide := true) only [updO, upd, true_and, and_true, false_and, and_false, ↓reduceIte, hE] <;> first | rfl | assumption) (hy : evE e y = u := by simp (decide := true) only [evE, upd, cv, args0, argsFrom, List.length_map, ↓reduceIte, hE] <;> rfl) (hk : KeyV u k) (hkc : KeyC P kt k) (hlc : ∀ p ∈ l, KeyC P kt p.1) (hz : evE e z = v := by simp (decide := true) only [evE, upd, cv, args0, argsFrom, List.length_map, ↓reduceIte, hE] <;> rfl)
    (h : Wk (m.log ⟨none, [(g1, d1, .mv (mput k v l))], [(g1, d1)]⟩) ⟨P, w0, S0, nt, frs⟩ ops Q ⟨e, updO ob g1 d1 (.mv (mput k v l)), g⟩ rest) : Wk m ⟨P, w0, S0, nt, frs⟩ ops Q ⟨e, ob, g⟩ (⟨none, .insert t x y z, ty, pos, aft, none⟩ :: rest) :=
  Wk.op (Loc.plain rfl rfl fun st' hv' ho' _ => Stp.mvPut (st := st') rfl (.inr rfl) ht ((hv' x (by simp [Op.operands])).trans ((evE_eq e ob g x).trans hx)) ((ho' (g1, d1) (by simp)).trans ho) ((hv' y (by simp [Op.operands])).trans ((evE_eq e ob g y).trans hy)) hk hkc hlc ((hv' z (by simp [Op.operands])).trans ((evE_eq e ob g z).trans hz))) h
/-- A store of a struct into a part of a row's element. -/
theorem p_storeRowPart {t t' i q g1 d1 : Nat} {x y : Operand} {xs l : List V} {v : V} {z : Value} {size bytes : Nat} (xs' : List V) (hi : TI P t z size bytes) (hx : evE e x = .rptr t' g1 d1 i q := by simp (decide := true) only [evE, upd, cv, args0, argsFrom, List.length_map, ↓reduceIte, hE] <;> rfl) (ho : ob g1 d1 = .row t' xs := by simp (decide := true) only [updO, upd, true_and, and_true, false_and, and_false, ↓reduceIte, hE] <;> first | rfl | assumption) (hu : xs[i]? = some (.agg l)) (hy : evE e y = v := by simp (decide := true) only [evE, upd, cv, args0, argsFrom, List.length_map, ↓reduceIte, hE] <;> rfl) (hl : v.leaf = true ∨ ∃ l, v = .agg l) (hro : v.ro = true := by exact rfl) (hsz : v.cells.length = size := by exact rfl) (hq : q + size ≤ l.length := by decide) (hxs : xs.set i (.agg (splice l q v.cells)) = xs')
    (h : Wk (m.log ⟨none, [(g1, d1, .row t' xs')], [(g1, d1)]⟩) ⟨P, w0, S0, nt, frs⟩ ops Q ⟨e, updO ob g1 d1 (.row t' xs'), g⟩ rest) : Wk m ⟨P, w0, S0, nt, frs⟩ ops Q ⟨e, ob, g⟩ (⟨none, .store t x y, ty, pos, aft, none⟩ :: rest) := by
  subst hxs
  exact Wk.op (Loc.plain rfl rfl fun st' hv' ho' hg => Stp.storeRowPart (st := st') rfl rfl hi ((hv' x (by simp [Op.operands])).trans ((evE_eq e ob g x).trans hx)) ((ho' (g1, d1) (by simp)).trans ho) hu ((hv' y (by simp [Op.operands])).trans ((evE_eq e ob g y).trans hy)) hl hro hsz hq) h
/-- A new generation, between operations. -/
theorem p_fresh {K : Act → World → Prop} (h : (∀ d, ob (g + 1) d = .none) → Tr ⟨P, w0, S0, nt, frs⟩ ⟨e, ob, g + 1⟩ K) : Tr ⟨P, w0, S0, nt, frs⟩ ⟨e, ob, g⟩ K := fun S at_ a w hr =>
  Tr.next (h fun d => hr.gen _ d (Nat.lt_succ_self _)) S at_ a w hr
end
/-- A typed list's map. -/
theorem mget_map {α β : Type} [DecidableEq α] (kf : α → MK) (hkf : ∀ a b, kf a = kf b → a = b) (vf : β → V) (k : α) : ∀ l : List (α × β), mget (kf k) (l.map fun p => (kf p.1, vf p.2)) = (mget k l).map vf
  | [] => rfl
  | (q, v) :: l => by
    by_cases e : k = q
    · subst e; simp [mget]
    · have e' : kf k ≠ kf q := fun h => e (hkf _ _ h)
      have := mget_map kf hkf vf k l
      simp [mget, e, e', this]
theorem mput_map {α β : Type} [DecidableEq α] (kf : α → MK) (hkf : ∀ a b, kf a = kf b → a = b) (vf : β → V) (k : α) (v : β) : ∀ l : List (α × β), mput (kf k) (vf v) (l.map fun p => (kf p.1, vf p.2)) = (mput k v l).map fun p => (kf p.1, vf p.2)
  | [] => rfl
  | (q, u) :: l => by
    by_cases e : k = q
    · subst e; simp [mput]
    · have e' : kf k ≠ kf q := fun h => e (hkf _ _ h)
      have := mput_map kf hkf vf k v l
      simp [mput, e, e', this]
end Go.Proofs.YtjjpmbaddpiamaaDoor
