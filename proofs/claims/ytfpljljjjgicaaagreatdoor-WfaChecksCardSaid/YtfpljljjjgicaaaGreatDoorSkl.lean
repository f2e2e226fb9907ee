import Derived.Test.YtfpljljjjgicaaaGreatDoorSij
import Derived.Test.YtfpljljjjgicaaaGreatDoorWno
import Derived.Test.YtfpljljjjgicaaaGreatDoorZ35
import Derived.Test.YtfpljljjjgicaaaGreatDoorWp
/-
  The own form of an automaton, the plain part: one transition for each place, in order.
-/
set_option maxHeartbeats 4000000
set_option linter.unusedSimpArgs false
set_option linter.unusedVariables false
namespace Go.Proofs.YtfpljljjjgicaaaGreatDoor
instance : DecidableEq Pl := fun a b => decidable_of_iff (a.frm = b.frm ∧ a.sym = b.sym ∧ a.to = b.to) (by cases a; cases b; simp)
def plOf (t : Trn) : Pl := ⟨t.frm, t.sym, t.to⟩
def ltP (x y : Pl) : Prop := x.frm < y.frm ∨ x.frm = y.frm ∧ (x.sym < y.sym ∨ x.sym = y.sym ∧ x.to < y.to)
def bef (x y : Trn) : Bool := if x.frm ≠ y.frm then decide (x.frm < y.frm) else if x.sym ≠ y.sym then decide (x.sym < y.sym) else decide (x.to < y.to)
theorem bef_iff (x y : Trn) : bef x y = true ↔ ltP (plOf x) (plOf y) := by
  unfold bef ltP plOf
  split
  · simp; omega
  · split
    · simp; omega
    · simp; omega
theorem ltP_irr (x : Pl) : ¬ ltP x x := by unfold ltP; omega
theorem ltP_tr {x y z : Pl} (h1 : ltP x y) (h2 : ltP y z) : ltP x z := by unfold ltP at *; omega
theorem ltP_tri {x y : Pl} (h1 : ¬ ltP x y) (h2 : ¬ ltP y x) : x = y := by
  cases x; cases y; unfold ltP at *; simp at *; omega
/-- The first list's step: a weight for each place, in the order in which the places come. -/
def canM (s : Sp) (m : List (Pl × Wt)) (t : Trn) : List (Pl × Wt) := mput (plOf t) (eitherW s ((mget (plOf t) m).getD (zeroW s)) t.w) m
/-- The second's: put in at its place. -/
def insR (s : Sp) (l : List Trn) (t : Trn) : List Trn :=
  match l.dropWhile (bef · t) with
  | [] => l.takeWhile (bef · t) ++ [t]
  | x :: r => if bef t x = true then l.takeWhile (bef · t) ++ t :: x :: r else l.takeWhile (bef · t) ++ { x with w := eitherW s x.w t.w } :: r
def canonM (s : Sp) (ts : List Trn) : List (Pl × Wt) := ts.foldl (canM s) []
def canonR (s : Sp) (ts : List Trn) : List Trn := ts.foldl (insR s) []
structure CanI (s : Sp) (m : List (Pl × Wt)) (l : List Trn) : Prop where
  srt : l.Pairwise fun x y => ltP (plOf x) (plOf y)
  get : ∀ t ∈ l, mget (plOf t) m = some t.w
  mem : ∀ k w, mget k m = some w → ∃ t ∈ l, plOf t = k
  nod : (m.map (·.1)).Nodup
  ok : ∀ t ∈ l, isB s t.w = true
section
variable {κ β : Type} [DecidableEq κ]
theorem mget_none (k : κ) : ∀ l : List (κ × β), mget k l = none ↔ k ∉ l.map (·.1)
  | [] => by simp [mget]
  | (q, v) :: l => by
    by_cases e : k = q
    · subst e; simp [mget]
    · have := mget_none k l
      simp only [mget, if_neg e, List.map_cons, List.mem_cons, e, false_or]
      exact this
theorem mput_keys (k : κ) (v : β) : ∀ l : List (κ × β), (mput k v l).map (·.1) = if k ∈ l.map (·.1) then l.map (·.1) else l.map (·.1) ++ [k]
  | [] => rfl
  | (q, u) :: l => by
    by_cases e : k = q
    · subst e; simp [mput]
    · have := mput_keys k v l
      simp only [mput, if_neg e, List.map_cons, List.mem_cons, this]
      by_cases hm : k ∈ l.map (·.1)
      · rw [if_pos hm, if_pos (.inr hm)]
      · rw [if_neg hm, if_neg (fun h => h.elim e hm), List.cons_append]
end
theorem take_all {α : Type} (p : α → Bool) : ∀ l : List α, ∀ x ∈ l.takeWhile p, p x = true
  | [], x, h => by simp at h
  | y :: l, x, h => by
    rw [List.takeWhile_cons] at h
    split at h
    · rcases List.mem_cons.1 h with h | h
      · subst h; assumption
      · exact take_all p l x h
    · simp at h
theorem drop_head {α : Type} (p : α → Bool) : ∀ (l : List α) (x : α) (r : List α), l.dropWhile p = x :: r → p x = false
  | [], x, r, h => by simp at h
  | y :: l, x, r, h => by
    rw [List.dropWhile_cons] at h
    split at h
    · exact drop_head p l x r h
    · rename_i hn; cases h; simpa using hn
theorem CanI.none_of {s : Sp} {m : List (Pl × Wt)} {l : List Trn} (h : CanI s m l) {k : Pl} (hk : ∀ t ∈ l, plOf t ≠ k) : mget k m = none := by
  cases hg : mget k m with
  | none => rfl
  | some w =>
    obtain ⟨t, h1, h2⟩ := h.mem k w hg
    exact absurd h2 (hk t h1)
theorem CanI.step {s : Sp} (hs : spOk s = true) {m : List (Pl × Wt)} {l : List Trn} (h : CanI s m l) {t : Trn} (ht : isB s t.w = true) : CanI s (canM s m t) (insR s l t) := by
  have hsplit := List.takeWhile_append_dropWhile (p := (bef · t)) (l := l)
  have hpre : ∀ x ∈ l.takeWhile (bef · t), ltP (plOf x) (plOf t) := fun x hx => (bef_iff x t).1 (take_all (bef · t) l x hx)
  have hhd : ∀ x r, l.dropWhile (bef · t) = x :: r → bef x t = false := fun x r e => drop_head (bef · t) l x r e
  have hnod : ((canM s m t).map (·.1)).Nodup := by
    unfold canM
    rw [mput_keys]
    split
    · exact h.nod
    · rename_i hn
      exact List.nodup_append.2 ⟨h.nod, by simp, fun a ha b hb => by simp at hb; subst hb; intro e; subst e; exact hn ha⟩
  generalize hp : l.takeWhile (bef · t) = pre at *
  generalize hq : l.dropWhile (bef · t) = post at *
  have hget : ∀ k, mget k (canM s m t) = if k = plOf t then some (eitherW s ((mget (plOf t) m).getD (zeroW s)) t.w) else mget k m := fun k => by unfold canM; rw [mget_mput]
  have hnew : (∀ x ∈ l, plOf x ≠ plOf t) → mget (plOf t) (canM s m t) = some t.w := fun hne => by
    rw [hget, if_pos rfl, h.none_of hne]
    rw [Option.getD_none, either_zero hs ht]
  have hold : ∀ x ∈ l, plOf x ≠ plOf t → mget (plOf x) (canM s m t) = some x.w := fun x hx hne => by rw [hget, if_neg hne]; exact h.get x hx
  have hsrt := h.srt
  rw [← hsplit] at hsrt
  have hs3 := List.pairwise_append.1 hsrt
  unfold insR
  rw [hp, hq]
  cases post with
  | nil =>
    rw [List.append_nil] at hsplit
    have hne : ∀ x ∈ l, plOf x ≠ plOf t := fun x hx e => ltP_irr (plOf t) (by have := hpre x (hsplit ▸ hx); rwa [e] at this)
    refine ⟨List.pairwise_append.2 ⟨hs3.1, by simp, fun x hx y hy => by simp at hy; subst hy; exact hpre x hx⟩, fun x hx => ?_, fun k w hk => ?_, hnod, fun x hx => ?_⟩
    · rcases List.mem_append.1 hx with hx | hx
      · exact hold x (hsplit ▸ hx) (hne x (hsplit ▸ hx))
      · simp at hx; subst hx; exact hnew hne
    · rw [hget] at hk
      by_cases e : k = plOf t
      · exact ⟨t, by simp, e.symm⟩
      · rw [if_neg e] at hk
        obtain ⟨x, h1, h2⟩ := h.mem k w hk
        exact ⟨x, by rw [hsplit]; simp [h1], h2⟩
    · rcases List.mem_append.1 hx with hx | hx
      · exact h.ok x (hsplit ▸ hx)
      · simp at hx; subst hx; exact ht
  | cons x0 r =>
    have hx0 := hhd x0 r rfl
    have hx0' : ¬ ltP (plOf x0) (plOf t) := fun k => by have := (bef_iff x0 t).2 k; rw [this] at hx0; cases hx0
    have hmem0 : x0 ∈ l := by rw [← hsplit]; simp
    have hr : ∀ y ∈ r, ltP (plOf x0) (plOf y) := (List.pairwise_cons.1 hs3.2.1).1
    have hinl : ∀ {x}, x ∈ pre → x ∈ l := fun hx => by rw [← hsplit]; simp [hx]
    have hinr : ∀ {x}, x ∈ r → x ∈ l := fun hx => by rw [← hsplit]; simp [hx]
    by_cases hb : bef t x0 = true
    · simp only [if_pos hb]
      have hlt := (bef_iff t x0).1 hb
      have hafter : ∀ y ∈ x0 :: r, ltP (plOf t) (plOf y) := fun y hy => by
        rcases List.mem_cons.1 hy with hy | hy
        · subst hy; exact hlt
        · exact ltP_tr hlt (hr y hy)
      have hne : ∀ x ∈ l, plOf x ≠ plOf t := fun x hx e => by
        rw [← hsplit] at hx
        rcases List.mem_append.1 hx with hx | hx
        · have := hpre x hx; rw [e] at this; exact ltP_irr _ this
        · have := hafter x hx; rw [e] at this; exact ltP_irr _ this
      refine ⟨List.pairwise_append.2 ⟨hs3.1, List.pairwise_cons.2 ⟨hafter, hs3.2.1⟩, fun x hx y hy => ?_⟩, fun x hx => ?_, fun k w hk => ?_, hnod, fun x hx => ?_⟩
      · rcases List.mem_cons.1 hy with hy | hy
        · subst hy; exact hpre x hx
        · exact hs3.2.2 x hx y hy
      · rcases List.mem_append.1 hx with hx | hx
        · exact hold x (hinl hx) (hne x (hinl hx))
        · rcases List.mem_cons.1 hx with hx | hx
          · subst hx; exact hnew hne
          · have : x ∈ l := by rw [← hsplit]; exact List.mem_append_right _ hx
            exact hold x this (hne x this)
      · rw [hget] at hk
        by_cases e : k = plOf t
        · exact ⟨t, by simp, e.symm⟩
        · rw [if_neg e] at hk
          obtain ⟨x, h1, h2⟩ := h.mem k w hk
          rw [← hsplit] at h1
          refine ⟨x, ?_, h2⟩
          rcases List.mem_append.1 h1 with h1 | h1
          · exact List.mem_append_left _ h1
          · exact List.mem_append_right _ (List.mem_cons_of_mem _ h1)
      · rcases List.mem_append.1 hx with hx | hx
        · exact h.ok x (hinl hx)
        · rcases List.mem_cons.1 hx with hx | hx
          · subst hx; exact ht
          · exact h.ok x (by rw [← hsplit]; exact List.mem_append_right _ hx)
    · simp only [if_neg hb]
      have heq : plOf x0 = plOf t := ltP_tri hx0' (fun k => hb ((bef_iff t x0).2 k))
      have hg0 : mget (plOf t) m = some x0.w := by rw [← heq]; exact h.get x0 hmem0
      have hnpre : ∀ x ∈ pre, plOf x ≠ plOf t := fun x hx e => by have := hpre x hx; rw [e] at this; exact ltP_irr _ this
      have hnr : ∀ x ∈ r, plOf x ≠ plOf t := fun x hx e => by have := hr x hx; rw [e, heq] at this; exact ltP_irr _ this
      have hpl : plOf { x0 with w := eitherW s x0.w t.w } = plOf x0 := rfl
      refine ⟨List.pairwise_append.2 ⟨hs3.1, List.pairwise_cons.2 ⟨fun y hy => by rw [hpl]; exact hr y hy, (List.pairwise_cons.1 hs3.2.1).2⟩, fun x hx y hy => ?_⟩, fun x hx => ?_, fun k w hk => ?_, hnod, fun x hx => ?_⟩
      · rcases List.mem_cons.1 hy with hy | hy
        · subst hy; rw [hpl]; exact hs3.2.2 x hx x0 (by simp)
        · exact hs3.2.2 x hx y (by simp [hy])
      · rcases List.mem_append.1 hx with hx | hx
        · exact hold x (hinl hx) (hnpre x hx)
        · rcases List.mem_cons.1 hx with hx | hx
          · subst hx; rw [hpl, heq, hget, if_pos rfl, hg0]; rfl
          · exact hold x (hinr hx) (hnr x hx)
      · rw [hget] at hk
        by_cases e : k = plOf t
        · exact ⟨{ x0 with w := eitherW s x0.w t.w }, by simp, by rw [hpl, heq, e]⟩
        · rw [if_neg e] at hk
          obtain ⟨x, h1, h2⟩ := h.mem k w hk
          rw [← hsplit] at h1
          rcases List.mem_append.1 h1 with h1 | h1
          · exact ⟨x, List.mem_append_left _ h1, h2⟩
          · rcases List.mem_cons.1 h1 with h1 | h1
            · subst h1; exact absurd (h2.symm.trans heq) e
            · exact ⟨x, List.mem_append_right _ (List.mem_cons_of_mem _ h1), h2⟩
      · rcases List.mem_append.1 hx with hx | hx
        · exact h.ok x (hinl hx)
        · rcases List.mem_cons.1 hx with hx | hx
          · subst hx; exact eitherW_ok hs (h.ok x0 hmem0) ht
          · exact h.ok x (hinr hx)
theorem canI {s : Sp} (hs : spOk s = true) : ∀ (ts : List Trn) (m : List (Pl × Wt)) (l : List Trn), CanI s m l → (∀ t ∈ ts, isB s t.w = true) → CanI s (ts.foldl (canM s) m) (ts.foldl (insR s) l)
  | [], _, _, h, _ => h
  | t :: ts, m, l, h, ht => canI hs ts _ _ (h.step hs (ht t (by simp))) fun x hx => ht x (by simp [hx])
theorem canI0 {s : Sp} (hs : spOk s = true) {ts : List Trn} (ht : ∀ t ∈ ts, isB s t.w = true) : CanI s (canonM s ts) (canonR s ts) :=
  canI hs ts [] [] ⟨List.Pairwise.nil, fun _ h => by simp at h, fun _ _ h => by simp [mget] at h, by simp, fun _ h => by simp at h⟩ ht
/-- A place with the weight that a list tells of it. -/
def trOf (m : List (Pl × Wt)) (k : Pl) : Trn := ⟨k.frm, k.sym, k.to, (mget k m).getD wt0⟩
theorem CanI.sorted {s : Sp} {m : List (Pl × Wt)} {l : List Trn} (h : CanI s m l) {ks : List Pl} (hp : ks.Perm (m.map (·.1))) (hso : ks.Pairwise fun x y => ¬ cmpP y x < 0) : l = ks.map (trOf m) := by
  have hnodl : (l.map plOf).Nodup := by
    rw [List.nodup_iff_pairwise_ne, List.pairwise_map]
    exact h.srt.imp fun hlt e => by rw [e] at hlt; exact ltP_irr _ hlt
  have hperm : (l.map plOf).Perm (m.map (·.1)) := (List.perm_ext_iff_of_nodup hnodl h.nod).2 fun k => by
    constructor
    · intro hk
      obtain ⟨t, h1, h2⟩ := List.mem_map.1 hk
      have := h.get t h1
      refine Classical.byContradiction fun hn => ?_
      rw [h2, (mget_none k m).2 hn] at this
      cases this
    · intro hk
      cases hg : mget k m with
      | none => exact absurd hk ((mget_none k m).1 hg)
      | some w =>
        obtain ⟨t, h1, h2⟩ := h.mem k w hg
        exact List.mem_map.2 ⟨t, h1, h2⟩
  have hsl : (l.map plOf).Pairwise fun x y => ¬ cmpP y x < 0 := by
    rw [List.pairwise_map]
    refine h.srt.imp fun hlt hc => ?_
    rw [cmpP_lt] at hc
    exact ltP_irr _ (ltP_tr hlt hc)
  have he : l.map plOf = ks := sorted_eq cmpP_tot (hperm.trans hp.symm) hsl hso
  rw [← he, List.map_map]
  refine (List.map_id l).symm.trans (List.map_congr_left fun t ht => ?_)
  have := h.get t ht
  simp only [id, Function.comp, trOf, this, Option.getD_some]
  rfl
/-- The own form's transitions. -/
def canonT (a : Aut) : List Trn := (canonR a.sp a.trs).filter fun t => !sameW t.w (zeroW a.sp)
end Go.Proofs.YtfpljljjjgicaaaGreatDoor
/-
  wfa.Canon: the own form of an automaton.
-/
set_option maxHeartbeats 4000000
set_option linter.unusedSimpArgs false
set_option linter.unusedVariables false
namespace Go.Proofs.YtfpljljjjgicaaaGreatDoor
open Go.RowKit
attribute [local irreducible] Wk Tr
theorem finOk_len2 {a : Aut} : ∀ {last : Int} {l : List Int}, finOk a last l = true → (l.length : Int) ≤ max 0 (a.states - max 0 (last + 1))
  | _, [], _ => by simp; omega
  | last, s :: l, h => by
    simp only [finOk, inS, Bool.and_eq_true, decide_eq_true_eq, Bool.not_eq_true', decide_eq_false_iff_not] at h
    obtain ⟨⟨⟨h1, h2⟩, h3⟩, h4⟩ := h
    have := finOk_len2 h4
    simp only [List.length_cons]; omega
theorem fin_len2 {a : Aut} (h : checkE10 a = 0) : a.fin.length ≤ 4096 := by
  have h0 : finOk a (-1) a.fin = true := by
    unfold checkE10 at h
    split at h
    · contradiction
    · split at h
      · contradiction
      · split at h
        · contradiction
        · split at h
          · contradiction
          · rename_i h3; simpa using h3
  have h1 := finOk_len2 h0
  have h2 := (checkE10_ok h).st
  omega
abbrev plK (p : Pl) : MK := .tup [p.frm, p.sym, p.to]
theorem plK_inj (a b : Pl) (h : plK a = plK b) : a = b := by
  cases a; cases b; simpa [plK] using h
theorem pl_ints : IntStruct Tryz.prog 102 [.i64, .i64, .i64] :=
  ⟨_, Tryz.underlying102, by kernel_rfl, by kernel_rfl, rfl, rfl, Tryz.underlying3, rfl, rfl, Tryz.underlying3, rfl, rfl, Tryz.underlying3, trivial⟩
theorem plC (p : Pl) : KeyC Tryz.prog 102 (plK p) := pl_ints
theorem plVK (p : Pl) : KeyV (plV p) (plK p) := .inr ⟨[p.frm, p.sym, p.to], rfl, rfl⟩
abbrev mvM (m : List (Pl × Wt)) : List (MK × V) := m.map fun p => (plK p.1, wtV p.2)
theorem mvM_ok (m : List (Pl × Wt)) : ∀ p ∈ mvM m, KeyC Tryz.prog 102 p.1 := fun p hp => by
  obtain ⟨q, _, rfl⟩ := List.mem_map.1 hp
  exact plC q.1
theorem mvM_get (m : List (Pl × Wt)) (k : Pl) : mget (plK k) (mvM m) = (mget k m).map wtV := mget_map plK plK_inj wtV k m
theorem mvM_put (m : List (Pl × Wt)) (k : Pl) (w : Wt) : mput (plK k) (wtA w) (mvM m) = mvM (mput k w m) := by
  rw [show wtA w = wtV w from (wtV_eq w).symm]; exact mput_map plK plK_inj wtV k w m
theorem canonM_s (s : Sp) {ts : List Trn} {i : Nat} (h : i < ts.length) : canonM s (ts.take (i + 1)) = canM s (canonM s (ts.take i)) ts[i] := fold_snoc _ _ h
theorem canM_none {s : Sp} {m : List (Pl × Wt)} {t : Trn} (h : mget (plOf t) m = none) : canM s m t = m ++ [(plOf t, eitherW s (zeroW s) t.w)] := by
  rw [canM, h]; exact mput_new _ _ _ h
theorem canM_some {s : Sp} {m : List (Pl × Wt)} {t : Trn} {w : Wt} (h : mget (plOf t) m = some w) : canM s m t = mput (plOf t) (eitherW s w t.w) m := by
  rw [canM, h]; rfl
theorem canM_keys {s : Sp} {m : List (Pl × Wt)} {t : Trn} {w : Wt} (h : mget (plOf t) m = some w) : (canM s m t).map (·.1) = m.map (·.1) := by
  rw [canM_some h, mput_keys, if_pos]
  refine Classical.byContradiction fun hn => ?_
  rw [(mget_none (plOf t) m).2 hn] at h; cases h
theorem canM_length {s : Sp} {m : List (Pl × Wt)} {t : Trn} {w : Wt} (h : mget (plOf t) m = some w) : (canM s m t).length = m.length := by
  have := congrArg List.length (canM_keys (s := s) h)
  simpa using this
theorem canM_len (s : Sp) (m : List (Pl × Wt)) (t : Trn) : (canM s m t).length ≤ m.length + 1 := length_mput_le ..
theorem canonM_len (s : Sp) (ts : List Trn) : (canonM s ts).length ≤ ts.length := by
  have : ∀ (ts : List Trn) (m : List (Pl × Wt)), (ts.foldl (canM s) m).length ≤ m.length + ts.length := fun ts => by
    induction ts with
    | nil => intro m; simp
    | cons t ts ih => intro m; have h1 := ih (canM s m t); have h2 := canM_len s m t; rw [List.foldl_cons, List.length_cons]; omega
  have := this ts []
  simpa [canonM] using this
/-- The weights that the list tells are weights of the space. -/
theorem canonM_ok {s : Sp} (hs : spOk s = true) {ts : List Trn} (ht : ∀ t ∈ ts, isB s t.w = true) (k : Pl) (w : Wt) (h : mget k (canonM s ts) = some w) : isB s w = true := by
  have hI := canI0 hs ht
  obtain ⟨t, h1, h2⟩ := hI.mem k w h
  have := hI.get t h1
  rw [h2, h] at this
  cases this
  exact hI.ok t h1
def autN : Aut := ⟨.mk 0 0 [], 0, 0, [], []⟩
def canonA (a : Aut) : Aut := if checkE10 a = 0 then { a with trs := canonT a } else autN
def cRes (a : Aut) : V := .tup [autV (canonA a), iV (checkE10 a)]
theorem cRes_bad {a : Aut} (h : decide (checkE10 a ≠ 0) = true) : cRes a = .tup [autV autN, iV (checkE10 a)] := by
  have h' : ¬ checkE10 a = 0 := by simpa using h
  rw [cRes, canonA, if_neg h']
theorem cRes_ok {a : Aut} (h : checkE10 a = 0) : cRes a = .tup [autV { a with trs := canonT a }, iV 0] := by
  rw [cRes, canonA, if_pos h, h]
/-- The transitions of places that are told, without those that are worth nothing. -/
def outT (s : Sp) (m : List (Pl × Wt)) (ks : List Pl) : List Trn := (ks.map (trOf m)).filter fun t => !sameW t.w (zeroW s)
theorem outT_t {s : Sp} {m : List (Pl × Wt)} {ks : List Pl} {j : Nat} (h : j < ks.length) {w : Wt} (hw : mget ks[j] m = some w) (hn : (!sameW w (zeroW s)) = true) : outT s m (ks.take (j + 1)) = outT s m (ks.take j) ++ [⟨ks[j].frm, ks[j].sym, ks[j].to, w⟩] := by
  rw [outT, List.take_succ_eq_append_getElem h, List.map_append, List.filter_append, List.map_cons, List.map_nil]
  rw [List.filter_cons_of_pos (by rw [trOf, hw]; exact hn), trOf, hw]; rfl
theorem outT_f {s : Sp} {m : List (Pl × Wt)} {ks : List Pl} {j : Nat} (h : j < ks.length) {w : Wt} (hw : mget ks[j] m = some w) (hn : (!sameW w (zeroW s)) = false) : outT s m (ks.take (j + 1)) = outT s m (ks.take j) := by
  rw [outT, List.take_succ_eq_append_getElem h, List.map_append, List.filter_append, List.map_cons, List.map_nil]
  rw [List.filter_cons_of_neg (by rw [trOf, hw]; simpa using hn)]; simp [outT]
theorem outT_len (s : Sp) (m : List (Pl × Wt)) (ks : List Pl) : (outT s m ks).length ≤ ks.length := Nat.le_trans (List.length_filter_le ..) (by simp)
theorem clone_int (l : List Int) (hl : l.length ≤ 1000000) : FnC Tryz.prog 66 [.sl 3 (l.map iV)] (fun r => r = .sl 3 (l.map iV)) := by
  refine FnC.of (fn := Tryz.f66) ⟨Tryz.func66, by kernel_rfl, rfl⟩ Tryz.ntmps66 (by simp) fun w0 S0 => ?_
  refine p_go fun hf => ?_
  refine p_eqNil (h := fun b hb => ?_)
  refine p_go ?_
  refine p_cond (ht := fun hc => ?_) (hf := fun hc => ?_)
  · have hnil := hb hc
    refine p_go ?_
    refine p_nilSl (s := 2) (t := 3) (h := ?_)
    refine p_ret1 (hp := by rw [hnil])
  · refine p_go fun hf => ?_
    refine p_buildSlice (ht := Tryz.underlying26) (hi := F.ti3.h) (hvs := rfl) (hl := by intro v hv; cases hv) (h := ?_)
    refine p_go fun hf => ?_
    refine p_append (k := l.length) (xs := []) (ht := Tryz.underlying26) (hi := F.ti3.h) (hnl := rfl) (hy := by exact .inl ⟨rfl, rfl⟩) (hm := by simp) (hlim := by omega) (h := ?_)
    refine p_go ?_
    refine p_freeze (g1 := 0 + 1 + 1 + 1) (d1 := 7) (h := ?_)
    refine p_toSl (s := 2) (hn := by simp) (h := ?_)
    refine p_ret1 (hp := by simp)
theorem canonC (a : Aut) (ha : a.Sm) : FnC Tryz.prog 26 [autV a] (fun r => r = cRes a) := by
  refine FnC.of (fn := Tryz.f26) ⟨Tryz.func26, by kernel_rfl, rfl⟩ Tryz.ntmps26 (by simp) fun w0 S0 => ?_
  have hl1 := ha.trs
  have hl2 := ha.fin
  refine p_go fun hf => ?_
  refine p_call (hx := rfl) (hb := ⟨Tryz.func25, by kernel_rfl, rfl⟩) (hf := check10 a ha) (h := ?_)
  refine p_go ?_
  refine p_splitC (s := 18) (ht := fun hc18 => ?_) (hf := fun hc18 => ?_)
  · refine p_go fun hf => ?_
    refine p_build (hi := F.ti29.h) (hpl := F.pl29.h) (h := ?_)
    refine p_go ?_
    refine p_cellNil (g1 := 0 + 1) (d1 := 2) (i := 2) (el := 25) (h := ?_)
    refine p_cellNil (g1 := 0 + 1) (d1 := 2) (i := 5) (el := 3) (h := ?_)
    refine p_cellNil (g1 := 0 + 1) (d1 := 2) (i := 6) (el := 39) (h := ?_)
    refine p_r2 (hp := by rw [cRes_bad hc18]; rfl)
  · have hch : checkE10 a = 0 := by simpa using hc18
    have hok := checkE10_ok hch
    have hfl := fin_len2 hch
    have hmany := hok.many
    refine p_go fun hf => ?_
    refine p_mvMake (h := ?_)
    refine p_go ?_
    refine p_nilSlot (s := 6) (el := 102) 50 (h := ?_)
    refine p_loopK [1, 2, 5, 23, 24] [(0 + 1, 1), (0 + 1, 2)] (fun st => ∃ (i r : Nat), (i ≤ a.trs.length) ∧ (4 ≤ st.gen) ∧ st.env 25 = iV i ∧ st.env 6 = .row r 50 (canonM a.sp (a.trs.take i)).length ∧ st.obj r 50 = .row 102 (((canonM a.sp (a.trs.take i)).map (·.1)).map plV) ∧ st.obj (0 + 1 + 1 + 1 + 1) 21 = .mv (mvM (canonM a.sp (a.trs.take i)))) (fun st => a.trs.length - (st.env 25).toN) ?_ fun e ob g1 hK hO hI => ?_
    · exact ⟨0, _, by omega, by dsimp only; omega, eV_, eV_, oB_, oB_⟩
    · obtain ⟨i, r, hi, hgn, e25, e6, o50, om⟩ := hI
      dsimp only at e25 e6 o50 om
      simp only [valsE, List.cons.injEq, and_true] at hK
      simp only [valsO, List.cons.injEq, and_true] at hO
      have hE := (⟨hK, hO, e25, e6, o50, om⟩ : _ ∧ _ ∧ _ ∧ _ ∧ _ ∧ _)
      dsimp only at hgn
      refine p_go ?_
      refine p_splitC (s := 26) (ht := fun hc26 => ?_) (hf := fun hc26 => ?_)
      · have hlt : i < a.trs.length := by simpa using hc26
        have hm := List.getElem_mem hlt
        have hML := canonM_len a.sp (a.trs.take i)
        rw [List.length_take, Nat.min_eq_left hi] at hML
        refine p_go fun hf => ?_
        refine p_idxMap (j := i) (ht := Tryz.underlying27) (hi := F.ti39.h) (hij := rfl) (hj := hlt) (h := ?_)
        refine p_go fun hf => ?_
        refine p_build (hi := F.ti102.h) (hpl := F.pl102.h) (h := ?_)
        refine p_go fun hf => ?_
        rcases hg : mget (plOf a.trs[i]) (canonM a.sp (a.trs.take i)) with _ | w
        · refine p_mvLook (plK (plOf a.trs[i])) (v := .tup [.agg [.bool false, iV 0, .int .u64 0, .nil, .nil, .nil], .bool false]) (ht := Tryz.underlying99) (hi := F.ti37.h) (hk := plVK (plOf a.trs[i])) (hkc := plC _) (hlc := mvM_ok _) (hv := by rw [mvM_get, hg] <;> rfl) (h := ?_)
          refine p_go fun hf => ?_
          refine p_call (hx := rfl) (hb := ⟨Tryz.func35, by kernel_rfl, rfl⟩) (hf := wzero a.sp hok.sp) (h := ?_)
          refine p_go fun hf => ?_
          refine p_buildSlice (ht := Tryz.underlying100) (hi := F.ti102.h) (h := ?_)
          refine p_append (k := (canonM a.sp (a.trs.take i)).length + 1) (ht := Tryz.underlying100) (hi := F.ti102.h) (hnl := by simp) (hy := by exact ⟨.inl oB_, rfl⟩) (hm := by simp) (hlim := by omega) (h := ?_)
          refine p_go fun hf => ?_
          refine p_call (hx := rfl) (hb := ⟨Tryz.func36, by kernel_rfl, rfl⟩) (hf := wboth hok.sp (zeroW_ok hok.sp) (hok.w _ hm)) (h := ?_)
          refine p_mvPut (plK (plOf a.trs[i])) (ht := Tryz.underlying99) (hk := plVK (plOf a.trs[i])) (hkc := plC _) (hlc := mvM_ok _) (h := ?_)
          rw [mvM_put]
          refine p_go fun hf => ?_
          refine p_add (r := ((i + 1 : Nat) : Int)) (hr := (by first | omega | (simp only [decide_eq_true_eq, decide_eq_false_iff_not, Bool.or_eq_false_iff, Bool.and_eq_true, Bool.not_eq_true', Bool.not_eq_false'] at *; omega))) (hb := (by first | omega | (simp only [decide_eq_true_eq, decide_eq_false_iff_not, Bool.or_eq_false_iff, Bool.and_eq_true, Bool.not_eq_true', Bool.not_eq_false'] at *; omega))) (h := ?_)
          refine p_go ?_
          refine p_some ?_
          refine ⟨⟨(by simp (decide := true) only [valsE, evE, upd, cv, args0, argsFrom, List.length_map, ↓reduceIte, hE] <;> rfl), (by simp (decide := true) only [valsO, updO, upd, true_and, and_true, false_and, and_false, ↓reduceIte, hE] <;> rfl)⟩, ⟨i + 1, g1 + 1 + 1 + 1 + 1 + 1 + 1 + 1, hlt, by dsimp only; omega, eV_, by refine Eq.trans eV_ ?_; rw [canonM_s _ hlt, canM_none hg]; simp, by refine Eq.trans oB_ ?_; rw [canonM_s _ hlt, canM_none hg]; simp [plOf], by refine Eq.trans oB_ ?_; rw [canonM_s _ hlt, canM_none hg, mput_new _ _ _ hg]⟩, ?_⟩
          simp (decide := true) only [upd, e25, V.toN, ↓reduceIte]; omega
        · have hwB := canonM_ok hok.sp (fun t ht => hok.w t (List.mem_of_mem_take ht)) _ _ hg
          refine p_mvLook (plK (plOf a.trs[i])) (v := .tup [wtA w, .bool true]) (ht := Tryz.underlying99) (hi := F.ti37.h) (hk := plVK (plOf a.trs[i])) (hkc := plC _) (hlc := mvM_ok _) (hv := by rw [mvM_get, hg]; exact congrArg (fun x => V.tup [x, .bool true]) (wtV_eq w)) (h := ?_)
          refine p_go fun hf => ?_
          refine p_call (hx := rfl) (hb := ⟨Tryz.func36, by kernel_rfl, rfl⟩) (hf := wboth hok.sp hwB (hok.w _ hm)) (h := ?_)
          refine p_mvPut (plK (plOf a.trs[i])) (ht := Tryz.underlying99) (hk := plVK (plOf a.trs[i])) (hkc := plC _) (hlc := mvM_ok _) (h := ?_)
          rw [mvM_put]
          refine p_go fun hf => ?_
          refine p_add (r := ((i + 1 : Nat) : Int)) (hr := (by first | omega | (simp only [decide_eq_true_eq, decide_eq_false_iff_not, Bool.or_eq_false_iff, Bool.and_eq_true, Bool.not_eq_true', Bool.not_eq_false'] at *; omega))) (hb := (by first | omega | (simp only [decide_eq_true_eq, decide_eq_false_iff_not, Bool.or_eq_false_iff, Bool.and_eq_true, Bool.not_eq_true', Bool.not_eq_false'] at *; omega))) (h := ?_)
          refine p_go ?_
          refine p_some ?_
          refine ⟨⟨(by simp (decide := true) only [valsE, evE, upd, cv, args0, argsFrom, List.length_map, ↓reduceIte, hE] <;> rfl), (by simp (decide := true) only [valsO, updO, upd, true_and, and_true, false_and, and_false, ↓reduceIte, hE] <;> rfl)⟩, ⟨i + 1, r, hlt, by dsimp only; omega, eV_, by refine Eq.trans eV_ ?_; rw [canonM_s _ hlt, canM_length hg], by refine Eq.trans oB_ ?_; rw [canonM_s _ hlt, canM_keys hg], by refine Eq.trans oB_ ?_; rw [canonM_s _ hlt, canM_some hg]⟩, ?_⟩
          simp (decide := true) only [upd, e25, V.toN, ↓reduceIte]; omega
      · have hge : a.trs.length ≤ i := by simpa using hc26
        obtain rfl : i = a.trs.length := by omega
        rw [List.take_length] at e6 o50 om
        have hML := canonM_len a.sp a.trs
        have hE := (⟨hK, hO, e25, e6, o50, om⟩ : _ ∧ _ ∧ _ ∧ _ ∧ _ ∧ _)
        refine p_fresh fun hf => ?_
        refine p_renSlot (s := 6) 900 (h := ?_)
        refine p_go fun hf => ?_
        refine p_callQ ([(0 + 1, 1), (0 + 1, 2), (0 + 1 + 1 + 1 + 1, 21)]) (hf := by have h := sortF cmpP 63 _ _ ⟨Tryz.func63, by kernel_rfl, rfl⟩ canon1 cmpP_tot ((canonM a.sp a.trs).map (·.1)) (g1 + 1 + 1) (by simp; omega); rw [List.length_map] at h; exact h) (hg := by simp) (hos := by simp; omega) (h := fun rr o1 h1 hg1 hlw1 hos1 hR1 => ?_)
        obtain ⟨ks, hks, hperm, hso⟩ := hR1
        have hkl : ks.length = (canonM a.sp a.trs).length := by rw [hperm.length_eq, List.length_map]
        simp only [valsO, List.cons.injEq, and_true] at hos1 hks
        rw [← hkl]
        have hkb : ks.length ≤ 65536 := by omega
        have hE := (⟨hK, hos1, hks⟩ : _ ∧ _ ∧ _)
        refine p_go fun hf => ?_
        refine p_call (hx := rfl) (hb := ⟨Tryz.func66, by kernel_rfl, rfl⟩) (hf := clone_int a.fin (by omega)) (h := ?_)
        refine p_go ?_
        refine p_fresh fun hf => ?_
        refine p_nilCell (g1 := h1 + 1) (d1 := 12) (i := 6) (el := 39) 95 (h := ?_)
        refine p_loopK [1, 2, 5, 12, 68, 69] [(0 + 1, 1), (0 + 1, 2), (0 + 1 + 1 + 1 + 1, 21), (g1 + 1 + 1, 900)] (fun st => ∃ (j r2 n : Nat) (L2 : List V), (j ≤ ks.length) ∧ (L2 = (outT a.sp (canonM a.sp a.trs) (ks.take j)).map trV) ∧ (L2.length = n) ∧ st.env 70 = iV j ∧ st.obj (h1 + 1) 12 = .cells 29 [iV a.sp.tag, iV a.sp.dim, .sl 25 (a.sp.parts.map spV), iV a.states, iV a.symbols, .sl 3 (a.fin.map iV), .row r2 95 n] ∧ st.obj r2 95 = .row 39 L2) (fun st => ks.length - (st.env 70).toN) ?_ fun e ob g2 hK hO hI => ?_
        · exact ⟨0, _, 0, [], by omega, by simp [outT], rfl, eV_, oB_, oB_⟩
        · obtain ⟨j, r2, n, L2, hj, hL2, hn, e70, o12, o95⟩ := hI
          dsimp only at e70 o12 o95
          simp only [valsE, List.cons.injEq, and_true] at hK
          simp only [valsO, List.cons.injEq, and_true] at hO
          have hE := (⟨hK, hO, e70, o12, o95⟩ : _ ∧ _ ∧ _ ∧ _ ∧ _)
          have hn2 : n ≤ ks.length := by rw [← hn, hL2, List.length_map]; have := outT_len a.sp (canonM a.sp a.trs) (ks.take j); rw [List.length_take] at this; omega
          refine p_go ?_
          refine p_splitC (s := 71) (ht := fun hc71 => ?_) (hf := fun hc71 => ?_)
          · have hjk : j < ks.length := by have := hc71; simp at this; omega
            obtain ⟨w, hw⟩ : ∃ w, mget ks[j] (canonM a.sp a.trs) = some w := by
              cases hg : mget ks[j] (canonM a.sp a.trs) with
              | none => exact absurd (hperm.mem_iff.1 (List.getElem_mem hjk)) ((mget_none _ _).1 hg)
              | some w => exact ⟨w, rfl⟩
            have hwB := canonM_ok hok.sp hok.w _ _ hw
            have hnl := outT_len a.sp (canonM a.sp a.trs) (ks.take j)
            rw [List.length_take] at hnl
            refine p_go fun hf => ?_
            refine p_idxRowN (j) (ht := Tryz.underlying100) (hi := F.ti102.h) (hij := rfl) (hlt := hjk) (h := ?_)
            refine p_loadRowAM (ht := F.agg102.h) (hi := F.ti102.h) (hj := hjk) (h := ?_)
            refine p_go fun hf => ?_
            refine p_mvLook (plK ks[j]) (v := wtA w) (ht := Tryz.underlying99) (hi := F.ti37.h) (hk := plVK ks[j]) (hkc := plC _) (hlc := mvM_ok _) (hv := by rw [mvM_get, hw]; exact wtV_eq w) (h := ?_)
            refine p_go fun hf => ?_
            refine p_call (hx := rfl) (hb := ⟨Tryz.func35, by kernel_rfl, rfl⟩) (hf := wzero a.sp hok.sp) (h := ?_)
            refine p_call (hx := rfl) (hb := ⟨Tryz.func67, by kernel_rfl, rfl⟩) (hf := sameB hok.sp hwB (zeroW_ok hok.sp)) (h := ?_)
            refine p_go ?_
            refine p_splitC (s := 81) (ht := fun hc81 => ?_) (hf := fun hc81 => ?_)
            · refine p_go fun hf => ?_
              refine p_mvLook (plK ks[j]) (v := wtA w) (ht := Tryz.underlying99) (hi := F.ti37.h) (hk := plVK ks[j]) (hkc := plC _) (hlc := mvM_ok _) (hv := by rw [mvM_get, hw]; exact wtV_eq w) (h := ?_)
              refine p_build (hi := F.ti39.h) (hpl := F.pl39.h) (h := ?_)
              refine p_buildSlice (ht := Tryz.underlying27) (hi := F.ti39.h) (h := ?_)
              refine p_append (k := n + 1) (ht := Tryz.underlying27) (hi := F.ti39.h) (hnl := by exact hn.symm) (hy := by exact ⟨.inl oB_, rfl⟩) (hm := by simp [hn]) (hlim := by omega) (h := ?_)
              refine p_go fun hf => ?_
              refine p_add (r := ((j + 1 : Nat) : Int)) (hr := (by first | omega | (simp only [decide_eq_true_eq, decide_eq_false_iff_not, Bool.or_eq_false_iff, Bool.and_eq_true, Bool.not_eq_true', Bool.not_eq_false'] at *; omega))) (hb := (by first | omega | (simp only [decide_eq_true_eq, decide_eq_false_iff_not, Bool.or_eq_false_iff, Bool.and_eq_true, Bool.not_eq_true', Bool.not_eq_false'] at *; omega))) (h := ?_)
              refine p_go ?_
              refine p_some ?_
              refine ⟨⟨(by simp (decide := true) only [valsE, evE, upd, cv, args0, argsFrom, List.length_map, ↓reduceIte, hE] <;> rfl), (by simp (decide := true) only [valsO, updO, upd, true_and, and_true, false_and, and_false, ↓reduceIte, hE] <;> rfl)⟩, ⟨j + 1, _, n + 1, L2 ++ [trV ⟨ks[j].frm, ks[j].sym, ks[j].to, w⟩], hjk, by rw [outT_t hjk hw (by simpa using hc81), hL2, List.map_append]; rfl, by simp [hn], eV_, oB_, oB_⟩, ?_⟩
              simp (decide := true) only [upd, e70, V.toN, ↓reduceIte]; omega
            · refine p_go fun hf => ?_
              refine p_add (r := ((j + 1 : Nat) : Int)) (hr := (by first | omega | (simp only [decide_eq_true_eq, decide_eq_false_iff_not, Bool.or_eq_false_iff, Bool.and_eq_true, Bool.not_eq_true', Bool.not_eq_false'] at *; omega))) (hb := (by first | omega | (simp only [decide_eq_true_eq, decide_eq_false_iff_not, Bool.or_eq_false_iff, Bool.and_eq_true, Bool.not_eq_true', Bool.not_eq_false'] at *; omega))) (h := ?_)
              refine p_go ?_
              refine p_some ?_
              refine ⟨⟨(by simp (decide := true) only [valsE, evE, upd, cv, args0, argsFrom, List.length_map, ↓reduceIte, hE] <;> rfl), (by simp (decide := true) only [valsO, updO, upd, true_and, and_true, false_and, and_false, ↓reduceIte, hE] <;> rfl)⟩, ⟨j + 1, r2, n, L2, hjk, by rw [outT_f hjk hw (by simpa using hc81), hL2], hn, eV_, oB_, oB_⟩, ?_⟩
              simp (decide := true) only [upd, e70, V.toN, ↓reduceIte]; omega
          · have hge2 : ks.length ≤ j := by have := hc71; simp at this; omega
            obtain rfl : j = ks.length := by omega
            subst hL2
            subst hn
            refine p_freeze (g1 := r2) (d1 := 95) (h := ?_)
            refine p_cellSl (g1 := h1 + 1) (d1 := 12) (i := 6) (hn := rfl) (h := ?_)
            refine p_go ?_
            refine p_r2 (hp := by rw [cRes_ok hch, canonT, (canI0 hok.sp hok.w).sorted hperm hso, List.take_length]; rfl)
end Go.Proofs.YtfpljljjjgicaaaGreatDoor
