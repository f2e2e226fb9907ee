/-
  Regions of the abstract machine, in the text's order or in an order that is drawn: one walk of the text's order, each operation with what it reads and writes, serves every order.
-/
import Derived.OrdersIn
import Derived.Test.YtjjpmbaddpiamaaDoorD
import Derived.Orders
import Derived.Still
set_option linter.unusedSimpArgs false
set_option linter.unusedVariables false
namespace Go.Proofs.YtjjpmbaddpiamaaDoor
open Go.RowKit

/-- What an operation writes: a slot, objects; and which objects it looks at. -/
structure Eff where
  env : Option (Nat × V)
  wr : List (Nat × Nat × Ob)
  rd : List (Nat × Nat)
instance : Inhabited Eff := ⟨⟨none, [], []⟩⟩
def putW (wr : List (Nat × Nat × Ob)) (f : Nat → Nat → Ob) : Nat → Nat → Ob := wr.foldl (fun f p => updO f p.1 p.2.1 p.2.2) f
def Eff.put (x : Eff) (st : St) : St :=
  { env := match x.env with | some (d, v) => upd st.env d v | none => st.env
    obj := putW x.wr st.obj
    gen := st.gen }
theorem putW_off {wr : List (Nat × Nat × Ob)} {g d : Nat} (h : ∀ p ∈ wr, p.2.1 ≠ d) (f : Nat → Nat → Ob) : putW wr f g d = f g d := by
  induction wr generalizing f with
  | nil => rfl
  | cons p wr ih =>
    have h1 := ih (fun q hq => h q (List.mem_cons_of_mem _ hq)) (updO f p.1 p.2.1 p.2.2)
    have h2 : d ≠ p.2.1 := fun e => h p (List.mem_cons_self ..) e.symm
    simp only [putW, List.foldl_cons] at h1 ⊢
    rw [h1]
    simp [updO, h2]
theorem putW_same {wr : List (Nat × Nat × Ob)} {g d : Nat} {f f' : Nat → Nat → Ob} (h : f g d = f' g d) : putW wr f g d = putW wr f' g d := by
  induction wr generalizing f f' with
  | nil => exact h
  | cons p wr ih =>
    simp only [putW, List.foldl_cons] at ih ⊢
    exact ih (by simp only [updO]; split <;> simp_all)
theorem putW_comm {a b : List (Nat × Nat × Ob)} (h : ∀ p ∈ a, ∀ q ∈ b, p.2.1 ≠ q.2.1) (f : Nat → Nat → Ob) : putW b (putW a f) = putW a (putW b f) := by
  funext g d
  by_cases hb : ∀ q ∈ b, q.2.1 ≠ d
  · rw [putW_off hb]; exact (putW_same (putW_off hb f)).symm
  · have ha : ∀ p ∈ a, p.2.1 ≠ d := fun p hp e => hb fun q hq e' => h p hp q hq (e.trans e'.symm)
    rw [putW_off ha]; exact putW_same (putW_off ha f)

/-- An operation's step, with its guard. -/
def GStp (c : Ctx) (ops : Array Oper) (o : Oper) (st st' : St) : Prop :=
  ∀ S at_ a w, Rel c S at_ st a w → ∀ (next : Act → World → Prop) Q, (∀ S' at' a' w', Rel c S' at' st' a' w' → next a' w') → if Region.wanted o (yielded ops a.tmps) then o.wpIn (Fn c.frs.rd) 0 c.P a w next Q else next (a.put o.dst undef) w
def St.alike (st st' : St) (slots : List Nat) (keys : List (Nat × Nat)) : Prop := (∀ s ∈ slots, st'.env s = st.env s) ∧ (∀ k ∈ keys, st'.obj k.1 k.2 = st.obj k.1 k.2) ∧ st'.gen = st.gen
theorem St.alike.refl (st : St) (a : List Nat) (b : List (Nat × Nat)) : st.alike st a b := ⟨fun _ _ => rfl, fun _ _ => rfl, rfl⟩
theorem St.alike.trans {st st' st'' : St} {a : List Nat} {b : List (Nat × Nat)} (h : st.alike st' a b) (h' : st'.alike st'' a b) : st.alike st'' a b := ⟨fun s hs => (h'.1 s hs).trans (h.1 s hs), fun s hs => (h'.2.1 s hs).trans (h.2.1 s hs), h'.2.2.trans h.2.2⟩
structure Loc (c : Ctx) (ops : Array Oper) (o : Oper) (st : St) (x : Eff) : Prop where
  dst : x.env.map (·.1) = o.dst
  run : ∀ st', st.alike st' (o.looksAt ops) x.rd → GStp c ops o st' (x.put st')
theorem Loc.of_alike {c : Ctx} {ops : Array Oper} {o : Oper} {st st' : St} {x : Eff} (h : Loc c ops o st x) (ha : st.alike st' (o.looksAt ops) x.rd) : Loc c ops o st' x := ⟨h.dst, fun st'' h' => h.run st'' (ha.trans h')⟩

/-- What must come ahead of what. -/
inductive Anc (ops : Array Oper) : Nat → Nat → Prop
  | one {j : Nat} {o : Oper} {e : Edge} : ops[j]? = some o → e ∈ o.after → Region.binds .any e = true → Anc ops j e.on
  | more {j i : Nat} {o : Oper} {e : Edge} : ops[j]? = some o → e ∈ o.after → Region.binds .any e = true → Anc ops e.on i → Anc ops j i
def ancM (tab : List Nat) : List Edge → Nat
  | [] => 0
  | e :: l => if Region.binds .any e then 2 ^ e.on ||| tab.getD e.on 0 ||| ancM tab l else ancM tab l
def ancT : List Oper → List Nat → List Nat
  | [], tab => tab
  | o :: l, tab => ancT l (tab ++ [ancM tab o.after.toList])
theorem ancM_spec {ops : Array Oper} {tab : List Nat} (ht : ∀ j m, tab[j]? = some m → ∀ i, m.testBit i = true → Anc ops j i) {j : Nat} {o : Oper} (hj : ops[j]? = some o) : ∀ (l : List Edge), (∀ e ∈ l, e ∈ o.after) → ∀ i, (ancM tab l).testBit i = true → Anc ops j i
  | [], _, i, h => by simp [ancM] at h
  | e :: l, hl, i, h => by
    unfold ancM at h
    split at h
    · rename_i hb
      simp only [Nat.testBit_or, Nat.testBit_two_pow, Bool.or_eq_true, decide_eq_true_eq] at h
      rcases h with (h | h) | h
      · subst h; exact .one hj (hl e (List.mem_cons_self ..)) hb
      · cases hm : tab[e.on]? with
        | none => simp [hm] at h
        | some m => simp [hm] at h; exact .more hj (hl e (List.mem_cons_self ..)) hb (ht _ m hm i h)
      · exact ancM_spec ht hj l (fun e he => hl e (List.mem_cons_of_mem _ he)) i h
    · exact ancM_spec ht hj l (fun e he => hl e (List.mem_cons_of_mem _ he)) i h
theorem ancT_spec {ops : Array Oper} : ∀ (l : List Oper) (tab : List Nat), (∀ j, l[j]? = ops[tab.length + j]?) → (∀ j m, tab[j]? = some m → ∀ i, m.testBit i = true → Anc ops j i) → ∀ j m, (ancT l tab)[j]? = some m → ∀ i, m.testBit i = true → Anc ops j i
  | [], _, _, ht => ht
  | o :: l, tab, hl, ht => by
    unfold ancT
    have h0 : ops[tab.length]? = some o := by have := hl 0; simpa using this.symm
    refine ancT_spec l _ (fun j => by have := hl (j + 1); simp only [List.getElem?_cons_succ] at this; rw [this]; congr 1; simp; omega) fun j m hj i hi => ?_
    rcases Nat.lt_trichotomy j tab.length with h | h | h
    · rw [List.getElem?_append_left h] at hj; exact ht j m hj i hi
    · subst h; simp at hj; subst hj
      exact ancM_spec ht h0 _ (fun e he => by simpa using he) i hi
    · rw [List.getElem?_append_right (by omega)] at hj
      have : j - tab.length ≠ 0 := by omega
      obtain ⟨k, hk⟩ := Nat.exists_eq_succ_of_ne_zero this
      rw [hk] at hj; simp at hj

abbrev Sig := List Nat × List Nat
def Eff.sig (x : Eff) : Sig := (x.wr.map (·.2.1), x.rd.map (·.2))
def sigApart (a b : Sig) : Bool := a.1.all (fun d => !b.2.contains d && !b.1.contains d) && b.1.all (fun d => !a.2.contains d)
/-- Operations i and behind it j: j must come behind, or they have nothing to do with each other. -/
def pairsOk (ops : Array Oper) : List (Oper × Sig × Nat) → Nat → Bool
  | [], _ => true
  | (o, s, _) :: l, i => l.all (fun p => p.2.2.testBit i || (o.apart ops p.1 && sigApart s p.2.1)) && pairsOk ops l (i + 1)
def edgesOk : List Oper → Nat → Bool
  | [], _ => true
  | o :: l, k => o.after.toList.all (fun e => !Region.binds .any e || decide (e.on < k)) && edgesOk l (k + 1)
def drawOk (ops : Array Oper) (sigs : List Sig) : Bool := Region.noSelect ops && edgesOk ops.toList 0 && pairsOk ops (ops.toList.zip (sigs.zip (ancT ops.toList []))) 0
theorem edgesOk_spec : ∀ (l : List Oper) (k : Nat), edgesOk l k = true → ∀ j o, l[j]? = some o → ∀ e ∈ o.after, Region.binds .any e = true → e.on < k + j
  | [], _, _, j, o, hj, _, _, _ => by simp at hj
  | o :: l, k, h, j, o', hj, e, he, hb => by
    simp only [edgesOk, Bool.and_eq_true, List.all_eq_true] at h
    cases j with
    | zero => simp at hj; subst hj; have := h.1 e (by simpa using he); simpa [hb] using this
    | succ j => simp at hj; have := edgesOk_spec l (k + 1) h.2 j o' hj e he hb; omega
theorem pairsOk_spec {ops : Array Oper} : ∀ (l : List (Oper × Sig × Nat)) (k : Nat), pairsOk ops l k = true → ∀ (i j : Nat) p q, i < j → l[i]? = some p → l[j]? = some q → q.2.2.testBit (k + i) = true ∨ (p.1.apart ops q.1 = true ∧ sigApart p.2.1 q.2.1 = true)
  | [], _, _, i, j, p, q, _, hi, _ => by simp at hi
  | (o, s, m) :: l, k, h, i, j, p, q, hij, hi, hj => by
    simp only [pairsOk, Bool.and_eq_true, List.all_eq_true] at h
    obtain ⟨j', rfl⟩ : ∃ j', j = j' + 1 := ⟨j - 1, by omega⟩
    simp only [List.getElem?_cons_succ] at hj
    cases i with
    | zero =>
      simp at hi; subst hi
      have := h.1 q (List.mem_of_getElem? hj)
      simpa using this
    | succ i =>
      simp only [List.getElem?_cons_succ] at hi
      have := pairsOk_spec l (k + 1) h.2 i j' p q (by omega) hi hj
      rwa [show k + 1 + i = k + (i + 1) by omega] at this
theorem sigApart_spec {a b : Sig} (h : sigApart a b = true) : (∀ d ∈ a.1, d ∉ b.2 ∧ d ∉ b.1) ∧ ∀ d ∈ b.1, d ∉ a.2 := by
  simpa [sigApart] using h

section
variable {c : Ctx} {ops : Array Oper} {Q : Exit → Act → World → Prop} {x : Nat → Eff}
def Apt (ops : Array Oper) (x : Nat → Eff) (i j : Nat) : Prop := ∀ oi oj, ops[i]? = some oi → ops[j]? = some oj → oi.apart ops oj = true ∧ sigApart (x i).sig (x j).sig = true
def Bq (c : Ctx) (ops : Array Oper) (Q : Exit → Act → World → Prop) (x : Nat → Eff) : Nat → Array Bool → St → Prop
  | 0, listed, st => Region.ready .any ops listed = [] ∧ Tr c st (Q .normal)
  | f + 1, listed, st => (Region.ready .any ops listed = [] → Tr c st (Q .normal)) ∧ ∀ i ∈ Region.ready .any ops listed, (∀ o, ops[i]? = some o → Loc c ops o st (x i)) ∧ Bq c ops Q x f (listed.setIfInBounds i true) ((x i).put st)
theorem Bq.sound : ∀ (f : Nat) (listed : Array Bool) (st : St), Bq c ops Q x f listed st → ∀ S at_ a w, Rel c S at_ st a w → wpAnyIn (Fn c.frs.rd) 0 c.P .any ops Q f listed a w
  | 0, _, _, h, S, at_, a, w, hr => ⟨h.1, h.2 S at_ a w hr⟩
  | f + 1, listed, st, h, S, at_, a, w, hr => by
    refine ⟨fun h0 => h.1 h0 S at_ a w hr, fun i hi => ?_⟩
    obtain ⟨h1, h2⟩ := h.2 i hi
    obtain ⟨_, o, ho, _⟩ := mem_ready.1 hi
    unfold wpOpIn
    simp only [ho]
    have h3 := (h1 o ho).run st (St.alike.refl ..) S at_ a w hr (wpAnyIn (Fn c.frs.rd) 0 c.P .any ops Q f (listed.setIfInBounds i true)) Q (fun S' at' a' w' hr' => Bq.sound f _ _ h2 S' at' a' w' hr')
    split
    · rename_i hw; rw [if_pos hw] at h3; exact h3
    · rename_i hw; rw [if_neg hw] at h3; exact ⟨fun _ _ => trivial, h3⟩
def Dc (ops : Array Oper) (listed : Array Bool) : Prop := ∀ j o, ops[j]? = some o → listed.getD j false = true → ∀ e ∈ o.after, Region.binds .any e = true → listed.getD e.on false = true
theorem Dc.anc {listed : Array Bool} (hd : Dc ops listed) {j i : Nat} (h : Anc ops j i) : (∀ o, ops[j]? = some o → ∀ e ∈ o.after, Region.binds .any e = true → listed.getD e.on false = true) → listed.getD i false = true := by
  induction h with
  | one hj he hb => exact fun h => h _ hj _ he hb
  | more hj he hb _ ih => exact fun h => ih fun o ho e' he' hb' => hd _ _ ho (h _ hj _ he hb) e' he' hb'
theorem Dc.set {listed : Array Bool} (hd : Dc ops listed) {i : Nat} (hi : i ∈ Region.ready .any ops listed) : Dc ops (listed.setIfInBounds i true) := fun j o hj hl e he hb => by
  obtain ⟨_, oi, hoi, hall⟩ := mem_ready.1 hi
  by_cases hij : i = j
  · subst hij
    obtain rfl : o = oi := Option.some.inj (hj.symm.trans hoi)
    exact getD_set_true (hall e he hb)
  · rw [getD_set_ne false hij] at hl
    exact getD_set_true (hd j o hj hl e he hb)
theorem put_alike {x : Eff} {st : St} {slots : List Nat} {keys : List (Nat × Nat)} (h1 : ∀ d, x.env.map (·.1) = some d → d ∉ slots) (h2 : ∀ p ∈ x.wr, ∀ k ∈ keys, p.2.1 ≠ k.2) : st.alike (x.put st) slots keys := by
  refine ⟨fun s hs => ?_, fun k hk => putW_off (fun p hp => h2 p hp k hk) _, rfl⟩
  unfold Eff.put
  cases hx : x.env with
  | none => rfl
  | some p =>
    obtain ⟨d, v⟩ := p
    have : s ≠ d := fun e => h1 d (by rw [hx]; rfl) (e ▸ hs)
    simp [upd, this]
theorem St.alike.symm {st st' : St} {a : List Nat} {b : List (Nat × Nat)} (h : st.alike st' a b) : st'.alike st a b := ⟨fun s hs => (h.1 s hs).symm, fun s hs => (h.2.1 s hs).symm, h.2.2.symm⟩
theorem put_comm {a b : Eff} {st : St} (h1 : ∀ d, a.env.map (·.1) = some d → b.env.map (·.1) ≠ some d) (h2 : ∀ p ∈ a.wr, ∀ q ∈ b.wr, p.2.1 ≠ q.2.1) : b.put (a.put st) = a.put (b.put st) := by
  unfold Eff.put
  simp only [putW_comm h2, St.mk.injEq, and_true]
  cases ha : a.env with
  | none => rfl
  | some p =>
    cases hb : b.env with
    | none => rfl
    | some q =>
      obtain ⟨d, v⟩ := p; obtain ⟨d', v'⟩ := q
      have hne : d' ≠ d := fun e => h1 d (by rw [ha]; rfl) (by rw [hb, ← e]; rfl)
      funext s
      simp only [upd]
      by_cases e1 : s = d <;> by_cases e2 : s = d' <;> simp_all
theorem Bq.first {i : Nat} {oi : Oper} (hi : ops[i]? = some oi) : ∀ (f : Nat) (listed : Array Bool) (st : St), Dc ops listed →
    (∀ j, j ≠ i → listed.getD j true = false → Anc ops j i ∨ Apt ops x i j) → i ∈ Region.ready .any ops listed → Loc c ops oi st (x i) → Bq c ops Q x f (listed.setIfInBounds i true) ((x i).put st) → Bq c ops Q x (f + 1) listed st := by
  intro f
  induction f with
  | zero =>
    intro listed st _ _ hr hl H
    refine ⟨fun h => (by rw [h] at hr; cases hr), fun j hj => ?_⟩
    by_cases hji : j = i
    · subst hji; exact ⟨fun o ho => by rw [hi] at ho; cases ho; exact hl, H⟩
    · have := ready_mono hj hji
      rw [H.1] at this
      cases this
  | succ f ih =>
    intro listed st hd hfree hr hl H
    refine ⟨fun h => (by rw [h] at hr; cases hr), fun j hj => ?_⟩
    by_cases hji : j = i
    · subst hji; exact ⟨fun o ho => by rw [hi] at ho; cases ho; exact hl, H⟩
    · obtain ⟨h1, h2⟩ := H.2 j (ready_mono hj hji)
      obtain ⟨hjun, oj, hoj, hall⟩ := mem_ready.1 hj
      have hun := (mem_ready.1 hr).1
      have hnot : ¬ Anc ops j i := fun ha => by
        have h3 := hd.anc ha (fun o ho e he hb => by rw [hoj] at ho; cases ho; exact hall e he hb)
        rcases Nat.lt_or_ge i listed.size with h' | h'
        · simp [h'] at h3 hun; rw [h3] at hun; cases hun
        · simp [Array.getElem?_eq_none h'] at h3
      obtain ⟨hap, hsig⟩ := (hfree j hji hjun).resolve_left hnot oi oj hi hoj
      obtain ⟨a1, a2, a3⟩ := Oper.apart_spec hap
      obtain ⟨s1, s2⟩ := sigApart_spec hsig
      have k1 : ∀ p ∈ (x i).wr, ∀ k ∈ (x j).rd, p.2.1 ≠ k.2 := fun p hp k hk e => (s1 p.2.1 (List.mem_map_of_mem hp)).1 (e ▸ List.mem_map_of_mem hk)
      have k2 : ∀ p ∈ (x i).wr, ∀ q ∈ (x j).wr, p.2.1 ≠ q.2.1 := fun p hp q hq e => (s1 p.2.1 (List.mem_map_of_mem hp)).2 (e ▸ List.mem_map_of_mem hq)
      have k3 : ∀ p ∈ (x j).wr, ∀ k ∈ (x i).rd, p.2.1 ≠ k.2 := fun p hp k hk e => s2 p.2.1 (List.mem_map_of_mem hp) (e ▸ List.mem_map_of_mem hk)
      have hlj := h1 oj hoj
      have hlj' : Loc c ops oj st (x j) := hlj.of_alike (put_alike (fun d hd' => a1 d (hl.dst ▸ hd')) k1).symm
      refine ⟨fun o ho => by rw [hoj] at ho; cases ho; exact hlj', ?_⟩
      refine ih (listed.setIfInBounds j true) _ (hd.set hj) (fun k hki hun' => ?_) (ready_mono hr (Ne.symm hji)) (hl.of_alike (put_alike (fun d hd' => a3 d (hlj.dst ▸ hd')) k3)) ?_
      · refine hfree k hki ?_
        by_cases hjk : j = k
        · subst hjk; exact hjun
        · rw [getD_set_ne true hjk] at hun'; exact hun'
      · rw [Array.setIfInBounds_comm _ _ hji, ← put_comm (fun d hd' => by rw [hlj.dst]; exact a2 d (hl.dst ▸ hd')) k2]
        exact h2
/-- The text's walk. -/
def LW (c : Ctx) (ops : Array Oper) (Q : Exit → Act → World → Prop) (x : Nat → Eff) : Nat → St → List Oper → Prop
  | _, st, [] => Tr c st (Q .normal)
  | k, st, o :: l => Loc c ops o st (x k) ∧ LW c ops Q x (k + 1) ((x k).put st) l
theorem LW.all (hed : ∀ j o, ops[j]? = some o → ∀ e ∈ o.after, Region.binds .any e = true → e.on < j) (hpair : ∀ i j, i < j → j < ops.size → Anc ops j i ∨ Apt ops x i j) :
    ∀ (l : List Oper) (k : Nat) (listed : Array Bool) (st : St), (∀ j, l[j]? = ops[k + j]?) → k + l.length = ops.size → listed.size = ops.size → (∀ j, j < ops.size → listed.getD j true = decide (j < k)) → LW c ops Q x k st l → Bq c ops Q x l.length listed st
  | [], k, listed, st, _, hk, hsz, hls, h => by
    refine ⟨?_, h⟩
    refine List.eq_nil_iff_forall_not_mem.2 fun j hj => ?_
    obtain ⟨h1, o, ho, _⟩ := mem_ready.1 hj
    have hlt := (Array.getElem?_eq_some_iff.1 ho).1
    rw [hls j hlt] at h1
    simp at hk h1; omega
  | o :: l, k, listed, st, hl, hk, hsz, hls, h => by
    have h0 : ops[k]? = some o := by simpa using (hl 0).symm
    have hklt := (Array.getElem?_eq_some_iff.1 h0).1
    have hf : ∀ j, j < k → listed.getD j false = true := fun j hj => by
      have h1 := hls j (by omega)
      have h2 : j < listed.size := by omega
      simp [h2, hj] at h1 ⊢; exact h1
    refine Bq.first h0 l.length listed st (fun j oj hj hlj e he hb => ?_) (fun j hjk hun => ?_) (mem_ready.2 ⟨by rw [hls k hklt]; simp, o, h0, fun e he hb => hf _ (hed k o h0 e he hb)⟩) h.1 ?_
    · have hjl := (Array.getElem?_eq_some_iff.1 hj).1
      have h1 := hls j hjl
      have h2 : j < listed.size := by omega
      simp [h2] at h1 hlj
      have : j < k := by rw [hlj] at h1; simpa using h1.symm
      exact hf _ (Nat.lt_trans (hed j oj hj e he hb) this)
    · have hjs : j < ops.size := by
        rcases Nat.lt_or_ge j listed.size with h' | h'
        · omega
        · simp [Array.getElem?_eq_none h'] at hun
      rw [hls j hjs] at hun
      exact hpair k j (by simp at hun; omega) hjs
    · refine LW.all hed hpair l (k + 1) _ _ (fun j => by have := hl (j + 1); simpa [Nat.add_assoc, Nat.add_comm 1 j] using this) (by simp at hk; omega) (by simpa using hsz) (fun j hj => ?_) h.2
      by_cases hjk : k = j
      · subst hjk; have : k < listed.size := by omega
        simp [this]
      · rw [getD_set_ne true hjk, hls j hj]
        simp; omega
/-- The walk with what it has logged. -/
def DW (c : Ctx) (ops : Array Oper) (Q : Exit → Act → World → Prop) : List Eff → St → List Oper → Prop
  | log, st, [] => drawOk ops (log.reverse.map Eff.sig) = true ∧ Tr c st (Q .normal)
  | log, st, o :: l => ∃ x, Loc c ops o st x ∧ DW c ops Q (x :: log) (x.put st) l
theorem DW.list : ∀ (l : List Oper) (log : List Eff) (st : St), DW c ops Q log st l → ∃ effs : List Eff, log.reverse <+: effs ∧ effs.length = log.length + l.length ∧ drawOk ops (effs.map Eff.sig) = true ∧ LW c ops Q (fun i => (effs[i]?).getD default) log.length st l
  | [], log, st, h => ⟨log.reverse, List.prefix_refl _, by simp, h.1, h.2⟩
  | o :: l, log, st, ⟨x, hx, h⟩ => by
    obtain ⟨effs, h1, h2, h3, h4⟩ := DW.list l (x :: log) _ h
    simp only [List.reverse_cons, List.length_cons] at h1 h2 h4
    have hx' : (effs[log.length]?).getD default = x := by
      obtain ⟨t, rfl⟩ := h1
      simp
    refine ⟨effs, (List.prefix_append _ _).trans h1, by simp; omega, h3, ?_⟩
    rw [LW]
    simp only [hx']
    exact ⟨hx, h4⟩
theorem TrC.draw {id : Nat} {l : List Oper} {st : St} (hm : c.P.follows .mixedOrders = true) (h : (∀ d, st.obj (st.gen + 1) d = .none) → DW c l.toArray Q [] { st with gen := st.gen + 1 } l) : TrC c st (.region id l.toArray true) Q := fun S at_ a w hr => by
  have hr' := hr
  refine wpIn_region_any hm ?_
  obtain ⟨effs, h1, h2, h3, h4⟩ := DW.list l [] _ (h fun d => hr.gen _ d (Nat.lt_succ_self _))
  simp only [drawOk, Bool.and_eq_true] at h3
  obtain ⟨⟨_, h5⟩, h6⟩ := h3
  have hlen : effs.length = l.length := by simpa using h2
  have htab := ancT_spec (ops := l.toArray) l [] (by simp) (by simp)
  have hb := LW.all (c := c) (Q := Q) (ops := l.toArray) (x := fun i => (effs[i]?).getD default) (fun j o hj e he hb => by have := edgesOk_spec _ _ h5 j o (by simpa using hj) e he hb; omega)
    (fun i j hij hj => by
      have hj' : j < l.length := by simpa using hj
      have htl : (ancT l []).length = l.length := by
        have : ∀ (l : List Oper) (tab : List Nat), (ancT l tab).length = tab.length + l.length := by
          intro l; induction l with
          | nil => intro tab; simp [ancT]
          | cons o l ih => intro tab; rw [ancT, ih]; simp; omega
        simpa using this l []
      have := pairsOk_spec _ _ h6 i j (l[i]'(by omega), (effs[i]'(by omega)).sig, (ancT l [])[i]'(by omega)) (l[j]'(by omega), (effs[j]'(by omega)).sig, (ancT l [])[j]'(by omega)) hij
        (by simp [List.getElem?_zip_eq_some]; exact ⟨_, List.getElem?_eq_getElem (by omega), rfl⟩) (by simp [List.getElem?_zip_eq_some]; exact ⟨_, List.getElem?_eq_getElem (by omega), rfl⟩)
      rcases this with h7 | h7
      · exact .inl (htab j ((ancT l [])[j]'(by omega)) (List.getElem?_eq_getElem (by omega)) i (by simpa using h7))
      · refine .inr fun oi oj hoi hoj => ?_
        have e1 : oi = l[i]'(by omega) := by simp at hoi; obtain ⟨_, h⟩ := List.getElem?_eq_some_iff.1 hoi; exact h.symm
        have e2 : oj = l[j]'(by omega) := by simp at hoj; obtain ⟨_, h⟩ := List.getElem?_eq_some_iff.1 hoj; exact h.symm
        have e3 : effs[i]? = some (effs[i]'(by omega)) := by simp
        have e4 : effs[j]? = some (effs[j]'(by omega)) := by simp
        simp only [e3, e4, Option.getD_some]
        subst e1 e2
        exact h7)
    l 0 (Array.replicate l.length false) { st with gen := st.gen + 1 } (by simp) (by simp) (by simp) (fun j hj => by simp at hj; simp [hj]) h4
  refine Bq.sound _ _ _ hb S at_ a _ ?_
  have hrn : Rel c S at_ { st with gen := st.gen + 1 } a w := { hr with gen := fun g d hg => hr.gen g d (by have hg' : st.gen + 1 < g := hg; omega), env := hr.env, al := hr.al, ok := hr.ok, own := hr.own, dis := hr.dis }
  exact hrn.same rfl { hr.below with }
/-- The walk with what it has logged, up to an end of one's own. -/
def DE (c : Ctx) (ops : Array Oper) (E : List Eff → St → Prop) : List Eff → St → List Oper → Prop
  | log, st, [] => E log st
  | log, st, o :: l => ∃ x, Loc c ops o st x ∧ DE c ops E (x :: log) (x.put st) l
/-- How a region is walked: in the text's order, or in an order that is drawn, with what has been logged. -/
inductive Md where
  | lex
  | draw (log : List Eff)
  | flo (E : List Eff → St → Prop) (log : List Eff)
def Md.log : Md → Eff → Md
  | .lex, _ => .lex
  | .draw l, x => .draw (x :: l)
  | .flo E l, x => .flo E (x :: l)
def Wk (m : Md) (c : Ctx) (ops : Array Oper) (Q : Exit → Act → World → Prop) (st : St) (l : List Oper) : Prop :=
  match m with
  | .lex => Tr c st (wpListIn (Fn c.frs.rd) 0 c.P ops Q l)
  | .draw log => DW c ops Q log st l
  | .flo E log => DE c ops E log st l
theorem Wk.op {m : Md} {o : Oper} {x : Eff} {st : St} {rest : List Oper} (hl : Loc c ops o st x) (h : Wk (m.log x) c ops Q (x.put st) rest) : Wk m c ops Q st (o :: rest) := by
  cases m with
  | lex =>
    intro S at_ a w hr
    have := hl.run st (St.alike.refl ..) S at_ a w hr (wpListIn (Fn c.frs.rd) 0 c.P ops Q rest) Q (fun S' at' a' w' hr' => h S' at' a' w' hr')
    unfold wpListIn
    split
    · rename_i hw; rw [if_pos hw] at this; exact this
    · rename_i hw; rw [if_neg hw] at this; exact ⟨fun _ _ => trivial, this⟩
  | draw log => exact ⟨x, hl, h⟩
  | flo E log => exact ⟨x, hl, h⟩
/-- An operation without a guard. -/
theorem Loc.plain {o : Oper} {st : St} {x : Eff} (hg : o.guard = none) (hd : x.env.map (·.1) = o.dst) (h : ∀ st', (∀ y ∈ o.op.operands, st'.ev y = st.ev y) → (∀ k ∈ x.rd, st'.obj k.1 k.2 = st.obj k.1 k.2) → st'.gen = st.gen → Stp c o st' (x.put st')) : Loc c ops o st x :=
  ⟨hd, fun st' ha S at_ a w hr next Q' hk => by
    have hw : Region.wanted o (yielded ops a.tmps) = true := by simp [Region.wanted, hg]
    rw [if_pos hw]
    refine h st' (fun y hy => ?_) ha.2.1 ha.2.2 S at_ a w hr next Q' hk
    cases y with
    | tmp t => exact ha.1 t (by simp only [Oper.looksAt, List.mem_append, List.mem_filterMap]; exact .inl ⟨.tmp t, by simpa using hy, rfl⟩)
    | _ => rfl⟩
end
end Go.Proofs.YtjjpmbaddpiamaaDoor
