/-
  The abstract machine: regions that draw their order and end in a call, what reads its answer, and an operation that hangs on nothing.
-/
import Derived.Test.YtjjpmbaddpiamaaDoorZ10
set_option linter.unusedSimpArgs false
set_option linter.unusedVariables false
namespace Go.Proofs.YtjjpmbaddpiamaaDoor
open Go.RowKit
section
variable {c : Ctx} {ops : Array Oper} {Q : Exit → Act → World → Prop} {x : Nat → Eff} {n : Nat}
structure Fre (ops : Array Oper) (n : Nat) (o4 o5 o6 : Oper) : Prop where
  at4 : ops[n]? = some o4
  at5 : ops[n + 1]? = some o5
  at6 : ops[n + 2]? = some o6
  size : ops.size = n + 3
  anc4 : ∀ i, i < n → Anc ops n i
  anc5 : ∀ i, i < n + 1 → Anc ops (n + 1) i
  edge : ∀ j o, ops[j]? = some o → ∀ e ∈ o.after, Region.binds .any e = true → e.on < j
  free : o6.after = #[]
  gd4 : o4.guard = none
  gd5 : o5.guard = none
  gd6 : o6.guard = none
/-- Both orders of what comes behind the call. -/
def Two (c : Ctx) (ops : Array Oper) (Q : Exit → Act → World → Prop) (o5 o6 : Oper) : Exit → Act → World → Prop
  | .normal => fun a w => wpListIn (Fn c.frs.rd) 0 c.P ops Q [o5, o6] a w ∧ wpListIn (Fn c.frs.rd) 0 c.P ops Q [o6, o5] a w
  | e => Q e
def Lr (c : Ctx) (ops : Array Oper) (Q : Exit → Act → World → Prop) (x : Nat → Eff) (n : Nat) (A B : Act → World → Prop) : Nat → Array Bool → St → Prop
  | 0, listed, st => (listed.size = ops.size ∧ ∀ j, j < ops.size → listed.getD j true = (decide (j < n) || decide (j = n + 2))) ∧ Tr c st A
  | f + 1, listed, st => Region.ready .any ops listed ≠ [] ∧ ∀ i ∈ Region.ready .any ops listed, (i < n ∨ i = n ∨ i = n + 2) ∧ (i ≠ n → (∀ o, ops[i]? = some o → Loc c ops o st (x i)) ∧ Lr c ops Q x n A B f (listed.setIfInBounds i true) ((x i).put st)) ∧ (i = n → f = 0 ∧ (listed.size = ops.size ∧ ∀ j, j < ops.size → listed.getD j true = decide (j < n)) ∧ Tr c st B)
theorem Fre.dcA {o4 o5 o6 : Oper} (h : Fre ops n o4 o5 o6) {listed : Array Bool} {p : Nat → Bool} (hs : listed.size = ops.size) (hls : ∀ j, j < ops.size → listed.getD j true = p j) (hp : ∀ j, p j = true → j = n + 2 ∨ ∀ i, i < j → p i = true) : Dc ops listed := dc_of hs hls fun j o hj hpj e he hb => by
  have h1 := h.edge j o hj e he hb
  have h2 := (Array.getElem?_eq_some_iff.1 hj).1
  rcases hp j hpj with h3 | h3
  · subst h3; rw [h.at6] at hj; cases hj; rw [h.free] at he; simp at he
  · exact ⟨by omega, h3 _ h1⟩
theorem none_ready {listed : Array Bool} (h : ∀ j, j < ops.size → listed.getD j true = true) : Region.ready .any ops listed = [] :=
  List.eq_nil_iff_forall_not_mem.2 fun i hi => by
    obtain ⟨h1, h2⟩ := ready_un hi
    rw [h i h1] at h2; cases h2
theorem tail_only {F : Fence} {N : Nat} {P : Program} {o : Oper} {k : Nat} {listed : Array Bool} {a : Act} {w : World} {f : Nat} (hk : ops[k]? = some o) (hg : o.guard = none) (hs : listed.size = ops.size) (hun : listed.getD k true = false) (hall : ∀ e ∈ o.after, Region.binds .any e = true → listed.getD e.on false = true)
    (honly : ∀ i ∈ Region.ready .any ops listed, i = k) (hw : o.wpIn F N P a w (wpAnyIn F N P .any ops Q f (listed.setIfInBounds k true)) Q) : wpAnyIn F N P .any ops Q (f + 1) listed a w := by
  have hr : k ∈ Region.ready .any ops listed := mem_ready.2 ⟨hun, o, hk, hall⟩
  refine ⟨fun h0 => (by rw [h0] at hr; cases hr), fun i hi => ?_⟩
  obtain rfl := honly i hi
  exact wp_at hk hg hw
theorem wp_one {F : Fence} {N : Nat} {P : Program} {o : Oper} {a : Act} {w : World} {K : Act → World → Prop} (hg : o.guard = none) (hw : wpListIn F N P ops Q [o] a w) (hk : ∀ a w, Q .normal a w → K a w) : o.wpIn F N P a w K Q := Oper.wpIn_mono (fun a w h => hk a w h) (wp_cons hg hw)
theorem Fre.seqA {F : Fence} {N : Nat} {P : Program} {o4 o5 o6 : Oper} (h : Fre ops n o4 o5 o6) {listed : Array Bool} {a : Act} {w : World} (hs : listed.size = ops.size) (hls : ∀ j, j < ops.size → listed.getD j true = (decide (j < n) || decide (j = n + 2))) (hw : wpListIn F N P ops Q [o4, o5] a w) : wpAnyIn F N P .any ops Q 2 listed a w := by
  have hsz := h.size
  have hd := h.dcA (p := fun j => decide (j < n) || decide (j = n + 2)) hs hls fun j hj => by
    simp only [Bool.or_eq_true, decide_eq_true_eq] at hj ⊢
    rcases hj with hj | hj
    · right; intro i hi; left; omega
    · left; exact hj
  have hln : listed.getD n false = false := by rw [getD_ft (by omega), hls n (by omega)]; simp
  refine tail_only (k := n) h.at4 h.gd4 hs (by rw [hls n (by omega)]; simp) (fun e he hb => by
    have h1 := h.edge n o4 h.at4 e he hb
    rw [getD_ft (by omega), hls _ (by omega)]; simp [h1]) (fun i hi => ?_) (Oper.wpIn_mono (fun a w hq => ?_) (wp_cons h.gd4 hw))
  · obtain ⟨hlt, h1⟩ := ready_un hi
    rw [hls i hlt] at h1
    simp at h1
    by_cases h2 : i = n
    · exact h2
    · have h3 : i = n + 1 := by omega
      subst h3
      exact absurd hi (unready hd (h.anc5 n (by omega)) hln)
  · obtain ⟨h1, h2⟩ := set_is (ops := ops) (q := fun j => decide (j < n + 1) || decide (j = n + 2)) (k := n) (by omega) hs hls (fun j => by
      by_cases e1 : j < n <;> by_cases e2 : j = n + 2 <;> by_cases e3 : j = n <;> simp [e1, e2, e3] <;> omega)
    refine tail_only (k := n + 1) h.at5 h.gd5 h1 (by rw [h2 _ (by omega)]; simp) (fun e he hb => by
      have h3 := h.edge _ o5 h.at5 e he hb
      rw [getD_ft (by omega), h2 _ (by omega)]; simp [h3]) (fun i hi => ?_) (wp_one h.gd5 hq fun a w hq => ?_)
    · obtain ⟨hlt, h3⟩ := ready_un hi
      rw [h2 i hlt] at h3
      simp at h3
      omega
    · exact ⟨none_ready fun j hj => by rw [(set_is (ops := ops) (q := fun j => decide (j < n + 3)) (k := n + 1) (by omega) h1 h2 (fun j => by by_cases e1 : j < n + 1 <;> by_cases e2 : j = n + 2 <;> by_cases e3 : j = n + 1 <;> simp [e1, e2, e3] <;> omega)).2 j hj]; simp; omega, hq⟩
theorem Fre.seqB {F : Fence} {N : Nat} {P : Program} {o4 o5 o6 : Oper} (h : Fre ops n o4 o5 o6) {listed : Array Bool} {a : Act} {w : World} (hs : listed.size = ops.size) (hls : ∀ j, j < ops.size → listed.getD j true = decide (j < n + 1)) (hw1 : wpListIn F N P ops Q [o5, o6] a w) (hw2 : wpListIn F N P ops Q [o6, o5] a w) : wpAnyIn F N P .any ops Q 2 listed a w := by
  have hsz := h.size
  have hr : n + 2 ∈ Region.ready .any ops listed := mem_ready.2 ⟨by rw [hls _ (by omega)]; simp, o6, h.at6, fun e he hb => by rw [h.free] at he; simp at he⟩
  refine ⟨fun h0 => (by rw [h0] at hr; cases hr), fun i hi => ?_⟩
  obtain ⟨hlt, h1⟩ := ready_un hi
  rw [hls i hlt] at h1
  simp at h1
  by_cases hi5 : i = n + 1
  · subst hi5
    refine wp_at h.at5 h.gd5 (Oper.wpIn_mono (fun a w hq => ?_) (wp_cons h.gd5 hw1))
    obtain ⟨h3, h4⟩ := set_is (ops := ops) (q := fun j => decide (j < n + 2)) (k := n + 1) (by omega) hs hls (fun j => by
      by_cases e1 : j < n + 1 <;> by_cases e3 : j = n + 1 <;> simp [e1, e3] <;> omega)
    refine tail_only (k := n + 2) h.at6 h.gd6 h3 (by rw [h4 _ (by omega)]; simp) (fun e he hb => by rw [h.free] at he; simp at he) (fun i hi => ?_) (wp_one h.gd6 hq fun a w hq => ?_)
    · obtain ⟨hlt, h5⟩ := ready_un hi
      rw [h4 i hlt] at h5
      simp at h5
      omega
    · exact ⟨none_ready fun j hj => by rw [(set_is (ops := ops) (q := fun j => decide (j < n + 3)) (k := n + 2) (by omega) h3 h4 (fun j => by by_cases e1 : j < n + 2 <;> by_cases e2 : j = n + 2 <;> simp [e1, e2] <;> omega)).2 j hj]; simp; omega, hq⟩
  · have hi6 : i = n + 2 := by omega
    subst hi6
    refine wp_at h.at6 h.gd6 (Oper.wpIn_mono (fun a w hq => ?_) (wp_cons h.gd6 hw2))
    obtain ⟨h3, h4⟩ := set_is (ops := ops) (q := fun j => decide (j < n + 1) || decide (j = n + 2)) (k := n + 2) (by omega) hs hls (fun j => rfl)
    refine tail_only (k := n + 1) h.at5 h.gd5 h3 (by rw [h4 _ (by omega)]; simp) (fun e he hb => by
      have h5 := h.edge _ o5 h.at5 e he hb
      rw [getD_ft (by omega), h4 _ (by omega)]; simp [h5]) (fun i hi => ?_) (wp_one h.gd5 hq fun a w hq => ?_)
    · obtain ⟨hlt, h5⟩ := ready_un hi
      rw [h4 i hlt] at h5
      simp at h5
      omega
    · exact ⟨none_ready fun j hj => by rw [(set_is (ops := ops) (q := fun j => decide (j < n + 3)) (k := n + 1) (by omega) h3 h4 (fun j => by by_cases e1 : j < n + 1 <;> by_cases e2 : j = n + 2 <;> by_cases e3 : j = n + 1 <;> simp [e1, e2, e3] <;> omega)).2 j hj]; simp; omega, hq⟩
theorem lets {Q Q' : Exit → Act → World → Prop} (hq : ∀ e, e ≠ .normal → ∀ a w, Q e a w → Q' e a w) (h : LetsOut Q) : LetsOut Q' := by
  obtain ⟨a, w, h⟩ := h
  exact ⟨a, w, hq .outgrown (by simp) a w h⟩
theorem wpIn_monoQ {F : Fence} {N : Nat} {P : Program} {o : Oper} {a : Act} {w : World} {K : Act → World → Prop} {Q Q' : Exit → Act → World → Prop} (hq : ∀ e, e ≠ .normal → ∀ a w, Q e a w → Q' e a w) (h : o.wpIn F N P a w K Q) : o.wpIn F N P a w K Q' := by
  unfold Oper.wpIn at *
  refine ⟨h.1, ?_⟩
  have h := h.2
  generalize (o.semAt F.round a.eval).run P w = r at *
  cases r with
  | ok x w' =>
    cases x <;> simp only [Oper.uponIn] at h ⊢ <;>
      first
        | exact h
        | exact ⟨h.1, CallsIn.mono h.2 (fun e w'' he => by cases e <;> first | exact he | exact hq _ (by simp) _ _ he | exact lets hq he)⟩
        | exact ⟨h.1, RowsIn.mono h.2 (fun _ _ he => he)⟩
        | exact ⟨h.1, RoundIn.mono h.2 (fun e w'' he => by cases e <;> first | exact he | exact hq _ (by simp) _ _ he | exact lets hq he)⟩
  | halt x w' => cases x <;> simp only [Oper.uponIn] at h ⊢ <;> first | exact h | exact hq _ (by simp) _ _ h | exact lets hq h
theorem Lr.sound {o4 o5 o6 : Oper} (hf : Fre ops n o4 o5 o6) : ∀ (f : Nat) (listed : Array Bool) (st : St), Lr c ops Q x n (wpListIn (Fn c.frs.rd) 0 c.P ops Q [o4, o5]) (wpListIn (Fn c.frs.rd) 0 c.P ops (Two c ops Q o5 o6) [o4]) f listed st → ∀ S at_ a w, Rel c S at_ st a w → wpAnyIn (Fn c.frs.rd) 0 c.P .any ops Q (f + 2) listed a w
  | 0, listed, st, ⟨⟨hs, hls⟩, h⟩, S, at_, a, w, hr => hf.seqA hs hls (h S at_ a w hr)
  | f + 1, listed, st, h, S, at_, a, w, hr => by
    rw [show f + 1 + 2 = (f + 2) + 1 by omega]
    refine ⟨fun h0 => absurd h0 h.1, fun i hi => ?_⟩
    obtain ⟨_, h1, h2⟩ := h.2 i hi
    by_cases hin : i = n
    · subst hin
      obtain ⟨rfl, ⟨hs, hls⟩, hB⟩ := h2 rfl
      have hn : i < ops.size := (Array.getElem?_eq_some_iff.1 hf.at4).1
      have hb2 := hB S at_ a w hr
      have hb3 : o4.wpIn (Fn c.frs.rd) 0 c.P a w (fun a w => wpListIn (Fn c.frs.rd) 0 c.P ops Q [o5, o6] a w ∧ wpListIn (Fn c.frs.rd) 0 c.P ops Q [o6, o5] a w) Q := by
        have h4 := wp_cons hf.gd4 hb2
        exact wpIn_monoQ (fun e he a w hq => by cases e <;> first | exact hq | exact absurd rfl he) h4
      refine wp_at hf.at4 hf.gd4 (Oper.wpIn_mono (fun a w hq => ?_) hb3)
      obtain ⟨h3, h4⟩ := set_is (q := fun j => decide (j < i + 1)) hn hs hls (fun j => by
        by_cases e1 : j < i <;> by_cases e3 : j = i <;> simp [e1, e3] <;> omega)
      rw [Nat.zero_add]
      exact hf.seqB h3 h4 hq.1 hq.2
    · obtain ⟨h1, h2⟩ := h1 hin
      obtain ⟨_, o, ho, _⟩ := mem_ready.1 hi
      unfold wpOpIn
      simp only [ho]
      have h3 := (h1 o ho).run st (St.alike.refl ..) S at_ a w hr (wpAnyIn (Fn c.frs.rd) 0 c.P .any ops Q (f + 2) (listed.setIfInBounds i true)) Q (fun S' at' a' w' hr' => Lr.sound hf f _ _ h2 S' at' a' w' hr')
      split
      · rename_i hw; rw [if_pos hw] at h3; exact h3
      · rename_i hw; rw [if_neg hw] at h3; exact ⟨fun _ _ => trivial, h3⟩
theorem Lr.first {o4 o5 o6 : Oper} {A B : Act → World → Prop} (hf : Fre ops n o4 o5 o6) {i : Nat} (hil : i < n) {oi : Oper} (hi : ops[i]? = some oi) : ∀ (f : Nat) (listed : Array Bool) (st : St), Dc ops listed →
    (∀ j, j ≠ i → listed.getD j true = false → Anc ops j i ∨ Apt ops x i j) → i ∈ Region.ready .any ops listed → Loc c ops oi st (x i) → Lr c ops Q x n A B f (listed.setIfInBounds i true) ((x i).put st) → Lr c ops Q x n A B (f + 1) listed st := by
  have hun : ∀ (listed : Array Bool), Dc ops listed → i ∈ Region.ready .any ops listed → ∀ j, j ∈ Region.ready .any ops listed → ¬ Anc ops j i := fun listed hd hr j hj ha => by
    obtain ⟨_, h2⟩ := ready_un hr
    have : listed.getD i false = false := by
      rcases Nat.lt_or_ge i listed.size with h' | h'
      · rw [getD_ft h', h2]
      · simp [Array.getElem?_eq_none h']
    exact unready hd ha this hj
  have hfar : ∀ (listed : Array Bool), Dc ops listed → i ∈ Region.ready .any ops listed → ∀ j, j ∈ Region.ready .any ops listed → (j < n ∨ j = n ∨ j = n + 2) ∧ j ≠ n := fun listed hd hr j hj => by
    have h0 := hun listed hd hr j hj
    have hlt := (ready_un hj).1
    have hsz := hf.size
    constructor
    · by_cases h1 : j = n + 1
      · subst h1; exact absurd (hf.anc5 i (by omega)) h0
      · omega
    · intro e; subst e; exact h0 (hf.anc4 i hil)
  intro f
  induction f with
  | zero =>
    intro listed st hd _ hr hl H
    refine ⟨fun h => (by rw [h] at hr; cases hr), fun j hj => ?_⟩
    obtain ⟨hf1, hf2⟩ := hfar listed hd hr j hj
    refine ⟨hf1, fun _ => ?_, fun e => absurd e hf2⟩
    by_cases hji : j = i
    · subst hji; exact ⟨fun o ho => by rw [hi] at ho; cases ho; exact hl, H⟩
    · have hjr := ready_mono hj hji
      obtain ⟨hlt, h1⟩ := ready_un hjr
      rw [H.1.2 j hlt] at h1
      simp at h1
      exact absurd h1 (by omega)
  | succ f ih =>
    intro listed st hd hfree hr hl H
    refine ⟨fun h => (by rw [h] at hr; cases hr), fun j hj => ?_⟩
    obtain ⟨hf1, hf2⟩ := hfar listed hd hr j hj
    refine ⟨hf1, fun _ => ?_, fun e => absurd e hf2⟩
    by_cases hji : j = i
    · subst hji; exact ⟨fun o ho => by rw [hi] at ho; cases ho; exact hl, H⟩
    · obtain ⟨_, h12, _⟩ := H.2 j (ready_mono hj hji)
      obtain ⟨h1, h2⟩ := h12 hf2
      obtain ⟨hjun, oj, hoj, hall⟩ := mem_ready.1 hj
      obtain ⟨hap, hsig⟩ := (hfree j hji hjun).resolve_left (hun listed hd hr j hj) oi oj hi hoj
      obtain ⟨a1, a2, a3⟩ := Oper.apart_spec hap
      obtain ⟨s1, s2⟩ := sigApart_spec hsig
      have k1 : ∀ p ∈ (x i).wr, ∀ k ∈ (x j).rd, p.2.1 ≠ k.2 := fun p hp k hk e => (s1 p.2.1 (List.mem_map_of_mem hp)).1 (e ▸ List.mem_map_of_mem hk)
      have k2 : ∀ p ∈ (x i).wr, ∀ q ∈ (x j).wr, p.2.1 ≠ q.2.1 := fun p hp q hq e => (s1 p.2.1 (List.mem_map_of_mem hp)).2 (e ▸ List.mem_map_of_mem hq)
      have k3 : ∀ p ∈ (x j).wr, ∀ k ∈ (x i).rd, p.2.1 ≠ k.2 := fun p hp k hk e => s2 p.2.1 (List.mem_map_of_mem hp) (e ▸ List.mem_map_of_mem hk)
      have hlj := h1 oj hoj
      have hlj' : Loc c ops oj st (x j) := hlj.of_alike (put_alike (fun d hd' => a1 d (hl.dst ▸ hd')) k1).symm
      refine ⟨fun o ho => by rw [hoj] at ho; cases ho; exact hlj', ?_⟩
      refine ih (listed.setIfInBounds j true) _ (hd.set hj) (fun k hki hun' => ?_) (ready_mono hr (Ne.symm hji)) (hl.of_alike (put_alike (fun d hd' => a3 d (hlj.dst ▸ hd')) k3)) ?_
      · refine hfree k hki ?_
        by_cases hjk : j = k
        · subst hjk; exact hjun
        · rw [getD_set_ne true hjk] at hun'; exact hun'
      · rw [Array.setIfInBounds_comm _ _ hji, ← put_comm (fun d hd' => by rw [hlj.dst]; exact a2 d (hl.dst ▸ hd')) k2]
        exact h2
/-- The text's walk of the first n, and what is to be shown behind it. -/
def Lh (c : Ctx) (ops : Array Oper) (x : Nat → Eff) (n : Nat) (A B : Act → World → Prop) (o6 : Oper) : Nat → St → List Oper → Prop
  | _, st, [] => Loc c ops o6 st (x (n + 2)) ∧ Tr c ((x (n + 2)).put st) A ∧ Tr c st B
  | k, st, o :: l => Loc c ops o st (x k) ∧ Lh c ops x n A B o6 (k + 1) ((x k).put st) l
theorem Lh.all {o4 o5 o6 : Oper} {A B : Act → World → Prop} (hf : Fre ops n o4 o5 o6) (hpair : ∀ i j, i < j → j < n ∨ j = n + 2 → i < n → Anc ops j i ∨ Apt ops x i j) :
    ∀ (l : List Oper) (k : Nat) (listed : Array Bool) (st : St), (∀ j, j < l.length → l[j]? = ops[k + j]?) → k + l.length = n → listed.size = ops.size → (∀ j, j < ops.size → listed.getD j true = decide (j < k)) → Lh c ops x n A B o6 k st l → Lr c ops Q x n A B (l.length + 1) listed st
  | [], k, listed, st, _, hk, hs, hls, h => by
    have hk' : k = n := by simpa using hk
    subst hk'
    have hn4 := (Array.getElem?_eq_some_iff.1 hf.at4).1
    have hn6 := (Array.getElem?_eq_some_iff.1 hf.at6).1
    have hsz := hf.size
    have hd : Dc ops listed := dc_of hs hls fun j o hj hp e he hb => by
      have h1 := hf.edge j o hj e he hb
      have h2 := (Array.getElem?_eq_some_iff.1 hj).1
      simp only [decide_eq_true_eq] at hp
      exact ⟨by omega, by simp; omega⟩
    have h6 : k + 2 ∈ Region.ready .any ops listed := mem_ready.2 ⟨by rw [hls _ hn6]; simp, o6, hf.at6, fun e he hb => by rw [hf.free] at he; simp at he⟩
    refine ⟨fun h0 => (by rw [h0] at h6; cases h6), fun i hi => ?_⟩
    obtain ⟨hlt, h1⟩ := ready_un hi
    rw [hls i hlt] at h1
    simp at h1
    have hne : i ≠ k + 1 := fun e => by
      subst e
      exact absurd hi (unready hd (hf.anc5 k (by omega)) (by rw [getD_ft (by omega), hls k hn4]; simp))
    refine ⟨by omega, fun hin => ?_, fun _ => ⟨rfl, ⟨hs, hls⟩, h.2.2⟩⟩
    have hi1 : i = k + 2 := by omega
    subst hi1
    refine ⟨fun o ho => by rw [hf.at6] at ho; cases ho; exact h.1, ?_, h.2.1⟩
    exact set_is hn6 hs hls (fun j => rfl)
  | o :: l, k, listed, st, hl, hk, hs, hls, h => by
    have h0 : ops[k]? = some o := by simpa using (hl 0 (by simp)).symm
    have hklt := (Array.getElem?_eq_some_iff.1 h0).1
    simp only [List.length_cons] at hk
    have hkr : k ∈ Region.ready .any ops listed := mem_ready.2 ⟨by rw [hls k hklt]; simp, o, h0, fun e he hb => by
      have h1 := hf.edge k o h0 e he hb
      rw [getD_ft (by omega), hls _ (by omega)]; simp [h1]⟩
    refine Lr.first hf (by omega) h0 (l.length + 1) listed st (dc_of hs hls fun j o hj hp e he hb => by
      have h1 := hf.edge j o hj e he hb
      have h2 := (Array.getElem?_eq_some_iff.1 hj).1
      simp only [decide_eq_true_eq] at hp
      exact ⟨by omega, by simp; omega⟩) (fun j hjk hun => ?_) hkr h.1 ?_
    · have hjs : j < ops.size := by
        rcases Nat.lt_or_ge j listed.size with h' | h'
        · omega
        · simp [Array.getElem?_eq_none h'] at hun
      rw [hls j hjs] at hun
      simp at hun
      by_cases h1 : j < n ∨ j = n + 2
      · exact hpair k j (by omega) h1 (by omega)
      · by_cases h2 : j = n
        · subst h2; exact .inl (hf.anc4 k (by omega))
        · have hsz := hf.size
          have h3 : j = n + 1 := by omega
          subst h3; exact .inl (hf.anc5 k (by omega))
    · obtain ⟨h3, h4⟩ := set_is (q := fun j => decide (j < k + 1)) hklt hs hls (fun j => by
        by_cases e1 : j < k <;> by_cases e3 : j = k <;> simp [e1, e3] <;> omega)
      exact Lh.all hf hpair l (k + 1) _ _ (fun j hj => by have := hl (j + 1) (by simpa using hj); simpa [Nat.add_assoc, Nat.add_comm 1 j] using this) (by omega) h3 h4 h.2
/-- What is left to be shown behind the first operations: with the free one, and without. -/
def FreE (c : Ctx) (ops : Array Oper) (Q : Exit → Act → World → Prop) (pre : List Oper) (o4 o5 o6 : Oper) (log : List Eff) (st : St) : Prop :=
  (∃ x, Loc c ops o6 st x ∧ drawOk (pre ++ [o6]).toArray ((x :: log).reverse.map Eff.sig) = true ∧ Tr c (x.put st) (wpListIn (Fn c.frs.rd) 0 c.P ops Q [o4, o5])) ∧ Tr c st (wpListIn (Fn c.frs.rd) 0 c.P ops (Two c ops Q o5 o6) [o4])
theorem DE2.list {E : List Eff → St → Prop} : ∀ (l : List Oper) (log : List Eff) (st : St), DE c ops E log st l → ∃ (effs : List Eff) (st' : St), effs.length = l.length ∧ E (effs.reverse ++ log) st' ∧ ∀ (x : Nat → Eff) (k : Nat) (A B : Act → World → Prop) (o6 : Oper), (∀ j y, effs[j]? = some y → x (k + j) = y) → Loc c ops o6 st' (x (n + 2)) → Tr c ((x (n + 2)).put st') A → Tr c st' B → Lh c ops x n A B o6 k st l
  | [], log, st, h => ⟨[], st, rfl, h, fun x k A B o5 _ h1 h2 h3 => ⟨h1, h2, h3⟩⟩
  | o :: l, log, st, ⟨y, hy, h⟩ => by
    obtain ⟨effs, st', h1, h2, h3⟩ := DE2.list l (y :: log) _ h
    refine ⟨y :: effs, st', by simp [h1], by simpa using h2, fun x k A B o5 hx h4 h5 h6 => ?_⟩
    have hk : x k = y := hx 0 y rfl
    rw [Lh, hk]
    exact ⟨hy, h3 x (k + 1) A B o5 (fun j z hz => by have := hx (j + 1) z (by simpa using hz); rw [← this]; congr 1; omega) h4 h5 h6⟩
def freOk (L : List Oper) (n : Nat) : Bool := (List.range n).all (fun i => ((ancT L []).getD n 0).testBit i) && (List.range (n + 1)).all (fun i => ((ancT L []).getD (n + 1) 0).testBit i) && edgesOk L 0
end
section
variable {c : Ctx} {Q : Exit → Act → World → Prop}
theorem TrC.drawFre {id : Nat} {L pre : List Oper} {o4 o5 o6 : Oper} {st : St} (hm : c.P.follows .mixedOrders = true) (hLe : L = pre ++ [o4, o5, o6]) (hl : freOk L pre.length = true) (hfr : o6.after = #[]) (hg : L.all (·.guard.isNone) = true) (h : (∀ d, st.obj (st.gen + 1) d = .none) → DE c L.toArray (FreE c L.toArray Q pre o4 o5 o6) [] { st with gen := st.gen + 1 } pre) : TrC c st (.region id L.toArray true) Q := fun S at_ a w hr => by
  refine wpIn_region_any hm ?_
  obtain ⟨effs, st', h1, ⟨⟨xf, h2, h3, h4⟩, h5⟩, h6⟩ := DE2.list (n := pre.length) pre [] _ (h fun d => hr.gen _ d (Nat.lt_succ_self _))
  simp only [freOk, Bool.and_eq_true] at hl
  obtain ⟨⟨hl1, hl2⟩, hl3⟩ := hl
  have hLl : L.length = pre.length + 3 := by rw [hLe]; simp
  have htab := ancT_spec (ops := L.toArray) L [] (by simp) (by simp)
  have htl : (ancT L []).length = L.length := by simpa using ancT_len L []
  have hgd : ∀ (j : Nat) (hj : j < L.length), (ancT L []).getD j 0 = (ancT L [])[j]'(by omega) := fun j hj => by
    rw [List.getD_eq_getElem?_getD, List.getElem?_eq_getElem (by omega)]; rfl
  have hgo : ∀ o ∈ L, o.guard = none := fun o ho => by simpa using List.all_eq_true.1 hg o ho
  have hanc : ∀ m i, m < L.length → ((ancT L []).getD m 0).testBit i = true → Anc L.toArray m i := fun m i hm h7 => by
    rw [hgd m hm] at h7
    exact htab m _ (List.getElem?_eq_getElem (by omega)) i h7
  have hflo : Fre L.toArray pre.length o4 o5 o6 :=
    { at4 := by rw [hLe]; simp
      at5 := by rw [hLe]; simp
      at6 := by rw [hLe]; simp
      size := by simp [hLl]
      anc4 := fun i hi => hanc _ _ (by omega) (List.all_eq_true.1 hl1 i (List.mem_range.2 hi))
      anc5 := fun i hi => hanc _ _ (by omega) (List.all_eq_true.1 hl2 i (List.mem_range.2 hi))
      edge := fun j o hj e he hb => by have := edgesOk_spec _ _ hl3 j o (by simpa using hj) e he hb; omega
      free := hfr
      gd4 := hgo o4 (by rw [hLe]; simp)
      gd5 := hgo o5 (by rw [hLe]; simp)
      gd6 := hgo o6 (by rw [hLe]; simp) }
  have hLp : ∀ k, k < pre.length → L[k]? = pre[k]? := fun k hk => by rw [hLe, List.getElem?_append_left hk]
  simp only [drawOk, Bool.and_eq_true] at h3
  obtain ⟨_, h8⟩ := h3
  have hed' : ∀ j o, (pre ++ [o6])[j]? = some o → ∀ e ∈ o.after, Region.binds .any e = true → e.on < j := fun j o hj e he hb => by
    rcases Nat.lt_or_ge j pre.length with h | h
    · rw [List.getElem?_append_left h, ← hLp j h] at hj
      exact hflo.edge j o (by simpa using hj) e he hb
    · rw [List.getElem?_append_right h] at hj
      have hz : j - pre.length = 0 := by
        rcases Nat.eq_zero_or_pos (j - pre.length) with h | h
        · exact h
        · rw [List.getElem?_eq_none (by simp; omega)] at hj; cases hj
      rw [hz] at hj; simp at hj; subst hj
      rw [hfr] at he; simp at he
  have htab' := ancT_spec (ops := (pre ++ [o6]).toArray) (pre ++ [o6]) [] (by simp) (by simp)
  have htl' : (ancT (pre ++ [o6]) []).length = pre.length + 1 := by simpa using ancT_len (pre ++ [o6]) []
  let x : Nat → Eff := fun i => if i < pre.length then (effs[i]?).getD default else xf
  have hx6 : x (pre.length + 2) = xf := by simp only [x]; rw [if_neg (by omega)]
  have hsg : ((xf :: (effs.reverse ++ [])).reverse.map Eff.sig) = (effs ++ [xf]).map Eff.sig := by simp
  rw [hsg] at h8
  have hpair : ∀ i j, i < j → j < pre.length ∨ j = pre.length + 2 → i < pre.length → Anc L.toArray j i ∨ Apt L.toArray x i j := fun i j hij hj hin => by
    have hil : i < pre.length := by omega
    -- the place in the shorter list
    obtain ⟨k, hk, hik, hkj⟩ : ∃ k, k ≤ pre.length ∧ i < k ∧ (k < pre.length ∧ k = j ∨ k = pre.length ∧ j = pre.length + 2) := by
      rcases hj with hj | hj
      · exact ⟨j, by omega, hij, .inl ⟨hj, rfl⟩⟩
      · exact ⟨pre.length, Nat.le_refl _, hil, .inr ⟨rfl, hj⟩⟩
    have g1 : ∀ m (hm : m < pre.length + 1), ((pre ++ [o6]).zip (((effs ++ [xf]).map Eff.sig).zip (ancT (pre ++ [o6]) [])))[m]? = some ((pre ++ [o6])[m]'(by simp; omega), ((effs ++ [xf])[m]'(by simp; omega)).sig, (ancT (pre ++ [o6]) [])[m]'(by omega)) := fun m hm => by
      simp only [List.getElem?_zip_eq_some, List.getElem?_map]
      refine ⟨List.getElem?_eq_getElem (by simp; omega), ?_, List.getElem?_eq_getElem (by omega)⟩
      rw [List.getElem?_eq_getElem (by simp; omega)]; rfl
    have h9 := pairsOk_spec _ _ h8 i k _ _ hik (g1 i (by omega)) (g1 k (by omega))
    rw [Nat.zero_add] at h9
    rcases h9 with h9 | h9
    · have h10 := htab' k _ (List.getElem?_eq_getElem (by omega)) i h9
      rcases hkj with ⟨hkl, rfl⟩ | ⟨rfl, rfl⟩
      · exact .inl (Anc.to (n := pre.length) (fun j o hj => hed' j o (by simpa using hj)) (fun m hm => by simp only [List.getElem?_toArray]; rw [List.getElem?_append_left hm, hLp m hm]) h10 hkl)
      · exfalso
        cases h10 with
        | one hj he hb => simp at hj; subst hj; rw [hfr] at he; simp at he
        | more hj he hb _ => simp at hj; subst hj; rw [hfr] at he; simp at he
    · refine .inr fun oi oj hoi hoj => ?_
      have hoi' : oi ∈ L := by simp at hoi; exact List.mem_of_getElem? hoi
      have hoj' : oj ∈ L := by simp at hoj; exact List.mem_of_getElem? hoj
      have e1 : (pre ++ [o6])[i]'(by simp; omega) = oi := by
        have h11 : L[i]? = some oi := by simpa using hoi
        rw [hLp i hil, List.getElem?_eq_getElem hil] at h11
        rw [List.getElem_append_left hil]; exact Option.some.inj h11
      have e3 : (effs ++ [xf])[i]'(by simp; omega) = x i := by
        simp only [x]; rw [if_pos hil, List.getElem_append_left (by omega), List.getElem?_eq_getElem (by omega)]; rfl
      have e24 : (pre ++ [o6])[k]'(by simp; omega) = oj ∧ (effs ++ [xf])[k]'(by simp; omega) = x j := by
        rcases hkj with ⟨hkl, rfl⟩ | ⟨rfl, rfl⟩
        · refine ⟨?_, ?_⟩
          · have h11 : L[k]? = some oj := by simpa using hoj
            rw [hLp k hkl, List.getElem?_eq_getElem hkl] at h11
            rw [List.getElem_append_left hkl]; exact Option.some.inj h11
          · simp only [x]; rw [if_pos hkl, List.getElem_append_left (by omega), List.getElem?_eq_getElem (by omega)]; rfl
        · refine ⟨?_, ?_⟩
          · have h11 := hflo.at6.symm.trans hoj
            simp; exact Option.some.inj h11
          · rw [hx6, List.getElem_append_right (by omega)]; simp [h1]
      rw [e1, e3, e24.1, e24.2] at h9
      exact ⟨apart_free (hgo _ hoi') (hgo _ hoj') h9.1, h9.2⟩
  have hLg := h6 x 0 (wpListIn (Fn c.frs.rd) 0 c.P L.toArray Q [o4, o5]) (wpListIn (Fn c.frs.rd) 0 c.P L.toArray (Two c L.toArray Q o5 o6) [o4]) o6 (fun j y hy => by
    have hjl : j < effs.length := (List.getElem?_eq_some_iff.1 hy).1
    simp only [x, Nat.zero_add]; rw [if_pos (by omega), hy]; rfl) (by rw [hx6]; exact h2) (by rw [hx6]; exact h4) h5
  have hb := Lh.all (Q := Q) hflo hpair pre 0 (Array.replicate L.length false) { st with gen := st.gen + 1 } (fun j hj => by simp only [List.getElem?_toArray]; rw [Nat.zero_add, hLp j hj]) (by omega) (by simp) (fun j hj => by simp at hj; simp [hj]) hLg
  have hrn : Rel c S at_ { st with gen := st.gen + 1 } a w := { hr with gen := fun g d hg => hr.gen g d (by have hg' : st.gen + 1 < g := hg; omega), env := hr.env, al := hr.al, ok := hr.ok, own := hr.own, dis := hr.dis }
  have hfin := Lr.sound hflo _ _ _ hb S at_ a _ (hrn.same (w' := { w with drawn := w.drawn + 1 }) rfl { hr.below with })
  rw [show pre.length + 1 + 2 = L.length by omega] at hfin
  simpa using hfin
end
section
variable {P : Program} {w0 : World} {S0 : Nat → Prop} {nt : Nat} {frs : Frs} {e : Nat → V} {ob : Nat → Nat → Ob} {g : Nat} {Q : Exit → Act → World → Prop} {ops : Array Oper}
/-- The first n operations, and the last one, in any order; then a call and what reads its answer. -/
theorem p_drawFre (n : Nat) {id : Nat} {L pre : List Oper} {o4 o5 o6 : Oper} [hm : MixC P] (hL : cutN n L = (pre, [o4, o5, o6]) := by exact rfl) (hl : freOk L pre.length = true := by kernel_rfl) (hfr : o6.after = #[] := by exact rfl) (hg : L.all (·.guard.isNone) = true := by exact rfl) (h : (∀ d, ob (g + 1) d = .none) → Wk (.flo (FreE ⟨P, w0, S0, nt, frs⟩ L.toArray Q pre o4 o5 o6) []) ⟨P, w0, S0, nt, frs⟩ L.toArray Q ⟨e, ob, g + 1⟩ pre) : TrC ⟨P, w0, S0, nt, frs⟩ ⟨e, ob, g⟩ (.region id L.toArray true) Q :=
  TrC.drawFre (st := ⟨e, ob, g⟩) hm.h (by have := cutN_eq (n := n) (L := L); rw [hL] at this; exact this) hl hfr hg h
/-- With the free one; then without it. -/
theorem p_fre {pre : List Oper} {o4 o5 o6 : Oper} {log : List Eff} (hA : Wk (.flo (fun log st => drawOk (pre ++ [o6]).toArray (log.reverse.map Eff.sig) = true ∧ Tr ⟨P, w0, S0, nt, frs⟩ st (wpListIn (Fn frs.rd) 0 P ops Q [o4, o5])) log) ⟨P, w0, S0, nt, frs⟩ ops Q ⟨e, ob, g⟩ [o6]) (hB : Wk .lex ⟨P, w0, S0, nt, frs⟩ ops (Two ⟨P, w0, S0, nt, frs⟩ ops Q o5 o6) ⟨e, ob, g⟩ [o4]) : Wk (.flo (FreE ⟨P, w0, S0, nt, frs⟩ ops Q pre o4 o5 o6) log) ⟨P, w0, S0, nt, frs⟩ ops Q ⟨e, ob, g⟩ [] := by
  obtain ⟨x, h1, h2, h3⟩ := hA
  exact ⟨⟨x, h1, h2, h3⟩, hB⟩
theorem p_freEnd {pre : List Oper} {o4 o5 o6 : Oper} {log : List Eff} (hd : drawOk (pre ++ [o6]).toArray (log.reverse.map Eff.sig) = true := by kernel_rfl) (h : Tr ⟨P, w0, S0, nt, frs⟩ ⟨e, ob, g⟩ (LastQ ⟨P, w0, S0, nt, frs⟩ ops Q [o4, o5] .normal)) : Wk (.flo (fun log st => drawOk (pre ++ [o6]).toArray (log.reverse.map Eff.sig) = true ∧ Tr ⟨P, w0, S0, nt, frs⟩ st (wpListIn (Fn frs.rd) 0 P ops Q [o4, o5])) log) ⟨P, w0, S0, nt, frs⟩ ops Q ⟨e, ob, g⟩ [] := ⟨hd, h⟩
theorem p_two {o5 o6 : Oper} (h1 : Wk .lex ⟨P, w0, S0, nt, frs⟩ ops Q ⟨e, ob, g⟩ [o5, o6]) (h2 : Wk .lex ⟨P, w0, S0, nt, frs⟩ ops Q ⟨e, ob, g⟩ [o6, o5]) : Tr ⟨P, w0, S0, nt, frs⟩ ⟨e, ob, g⟩ (Two ⟨P, w0, S0, nt, frs⟩ ops Q o5 o6 .normal) := fun S at_ a w hr => ⟨h1 S at_ a w hr, h2 S at_ a w hr⟩
end
section
variable {P : Program} {w0 : World} {S0 : Nat → Prop} {nt : Nat} {frs : Frs} {e : Nat → V} {ob : Nat → Nat → Ob} {g : Nat} {K : Act → World → Prop}
/-- A slot's row is only read from here on. -/
theorem p_frzS {s t g1 d1 n : Nat} {xs : List V} (hs : evE e (.tmp s) = .row g1 d1 n) (ho : ob g1 d1 = .row t xs) (hn : n = xs.length) (h : Tr ⟨P, w0, S0, nt, frs⟩ ⟨upd e s (.sl t xs), updO ob g1 d1 (.froz t xs), g⟩ K) : Tr ⟨P, w0, S0, nt, frs⟩ ⟨e, ob, g⟩ K :=
  p_freeze ho (p_toSl (g1 := g1) (d1 := d1) hs (by simp [updO]) hn h)
/-- The same of its head. -/
theorem p_frzST {s t g1 d1 n : Nat} {xs : List V} (hs : evE e (.tmp s) = .row g1 d1 n) (ho : ob g1 d1 = .row t xs) (hn : n ≤ xs.length) (h : Tr ⟨P, w0, S0, nt, frs⟩ ⟨upd e s (.sl t (xs.take n)), updO ob g1 d1 (.froz t xs), g⟩ K) : Tr ⟨P, w0, S0, nt, frs⟩ ⟨e, ob, g⟩ K :=
  p_freeze ho (p_toSlT (g1 := g1) (d1 := d1) hs (by simp [updO]) hn h)
end
theorem Stp.nilChkR {c : Ctx} {o : Oper} {st : St} {d : Nat} {x : Operand} {l : List V} (hd : o.dst = some d) (hn : d < c.nt) (hop : o.op = .nilCheck x) (hx : st.ev x = .ref l) : Stp c o st (st.put d (.ref l)) :=
  Stp.val hd hn fun S at_ a w hr => by
    have h1 := hr.ev x
    rw [hx, VR] at h1
    obtain ⟨ad, vals, h2, h3, h4, h5⟩ := h1
    refine ⟨_, by simp only [execOp, hop, h2, Sem.run_bind, Sem.run_pure, Result.andThen]; rfl, ?_⟩
    rw [VR]
    exact ⟨ad, vals, rfl, h3, h4, h5⟩
section
variable {P : Program} {w0 : World} {S0 : Nat → Prop} {nt : Nat} {frs : Frs} {e : Nat → V} {ob : Nat → Nat → Ob} {g : Nat} {Q : Exit → Act → World → Prop} {ops : Array Oper} {rest : List Oper} {d : Nat} {ty : TypeId} {pos : String} {aft : Array Edge} {m : Md}
theorem p_nilChkR {l : List V} {x : Operand} (hn : d < nt := by decide) (hx : evE e x = .ref l := by exact eV_) (h : Wk (m.log ⟨some (d, (.ref l)), [], []⟩) ⟨P, w0, S0, nt, frs⟩ ops Q ⟨upd e d (.ref l), ob, g⟩ rest) : Wk m ⟨P, w0, S0, nt, frs⟩ ops Q ⟨e, ob, g⟩ (⟨some d, .nilCheck x, ty, pos, aft, none⟩ :: rest) :=
  Wk.op (Loc.plain rfl rfl fun st' hv' ho' hg => Stp.nilChkR rfl hn rfl ((hv' x (by simp [Op.operands, Call.operands])).trans ((evE_eq e ob g x).trans hx))) h
end
end Go.Proofs.YtjjpmbaddpiamaaDoor
