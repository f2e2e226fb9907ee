import Derived.Test.YtjdhkopjigijfaaXbc
import Derived.Test.YtjdhkopjigijfaaSh
import Derived.Sort.KeysCollected
import Derived.Test.YtjdhkopjigijfaaXe
/-
  Rows sorted, each element once.
-/
set_option linter.unusedSimpArgs false
set_option linter.unusedVariables false
set_option maxHeartbeats 4000000
namespace Go.Proofs.Ytjdhkopjigijfaa
open Go.RowKit
attribute [local irreducible] Wk Tr
set_option linter.unusedSectionVars false
section
variable {α : Type} [Inhabited α] [DecidableEq α] {lt : α → α → Prop}
theorem cu_props (htr : ∀ a b c, lt a b → lt b c → lt a c) (d : Array α) (hs : ∀ i j, i < j → j < d.size → d[i]! = d[j]! ∨ lt d[i]! d[j]!) : ∀ m, m ≤ d.size → (∀ x, x ∈ Lib.compactUpTo d m ↔ ∃ j, j < m ∧ d[j]! = x) ∧ (Lib.compactUpTo d m).Pairwise lt := by
  intro m
  induction m with
  | zero => intro _; simp [Lib.compactUpTo]
  | succ m ih =>
    intro hm
    obtain ⟨h1, h2⟩ := ih (by omega)
    rw [Lib.compactUpTo_succ]
    by_cases hk : Lib.keeps d m = true
    · rw [if_pos hk]
      refine ⟨fun x => ?_, ?_⟩
      · rw [List.mem_append, List.mem_singleton, h1]
        constructor
        · rintro (⟨j, hj, h⟩ | h)
          · exact ⟨j, by omega, h⟩
          · exact ⟨m, by omega, h.symm⟩
        · rintro ⟨j, hj, h⟩
          by_cases hjm : j = m
          · right; rw [← h, hjm]
          · left; exact ⟨j, by omega, h⟩
      · rw [List.pairwise_append]
        refine ⟨h2, List.pairwise_singleton _ _, fun a ha b hb => ?_⟩
        rw [List.mem_singleton] at hb; subst hb
        obtain ⟨j, hj, rfl⟩ := (h1 a).1 ha
        have hm1 : m ≠ 0 := by omega
        have hne : d[m]! ≠ d[m - 1]! := by
          intro h
          rw [Lib.keeps_neg (by omega) h] at hk; cases hk
        have hl : lt d[m - 1]! d[m]! := by
          rcases hs (m - 1) m (by omega) (by omega) with h | h
          · exact absurd h.symm hne
          · exact h
        by_cases hj1 : j = m - 1
        · rw [hj1]; exact hl
        · rcases hs j (m - 1) (by omega) (by omega) with h | h
          · rw [h]; exact hl
          · exact htr _ _ _ h hl
    · rw [if_neg hk, List.append_nil]
      refine ⟨fun x => ?_, h2⟩
      rw [h1]
      constructor
      · rintro ⟨j, hj, h⟩; exact ⟨j, by omega, h⟩
      · rintro ⟨j, hj, h⟩
        by_cases hjm : j = m
        · subst hjm
          have hj0 : j ≠ 0 := by rintro rfl; exact hk (Lib.keeps_lt_one d 0 (by omega))
          refine ⟨j - 1, by omega, ?_⟩
          rw [← h]
          by_cases he : d[j]! = d[j - 1]!
          · exact he.symm
          · exact absurd (Lib.keeps_pos he) hk
        · exact ⟨j, by omega, h⟩
theorem compact_props (htr : ∀ a b c, lt a b → lt b c → lt a c) {l : List α} (hs : l.Pairwise fun a b => a = b ∨ lt a b) : (∀ x, x ∈ Lib.compact l ↔ x ∈ l) ∧ (Lib.compact l).Pairwise lt := by
  have hg : ∀ i (hi : i < l.length), l.toArray[i]! = l[i] := fun i hi => by
    rw [getElem!_pos l.toArray i (by simpa using hi)]; simp
  obtain ⟨h1, h2⟩ := cu_props htr l.toArray (fun i j hij hj => by
    have hj' : j < l.length := by simpa using hj
    rw [hg i (by omega), hg j hj']
    exact List.pairwise_iff_getElem.1 hs i j (by omega) hj' hij) l.length (by simp)
  refine ⟨fun x => ?_, h2⟩
  unfold Lib.compact
  rw [h1]
  constructor
  · rintro ⟨j, hj, h⟩; rw [hg j hj] at h; exact h ▸ List.getElem_mem hj
  · intro h
    obtain ⟨j, hj, h⟩ := List.mem_iff_getElem.1 h
    exact ⟨j, hj, by rw [hg j hj]; exact h⟩
theorem pairwise_ext (htr : ∀ a b c, lt a b → lt b c → lt a c) (hir : ∀ a, ¬ lt a a) : ∀ {l l' : List α}, l.Pairwise lt → l'.Pairwise lt → (∀ x, x ∈ l ↔ x ∈ l') → l = l'
  | [], [], _, _, _ => rfl
  | [], b :: l', _, _, h => absurd ((h b).2 (List.mem_cons_self ..)) (by simp)
  | a :: l, [], _, _, h => absurd ((h a).1 (List.mem_cons_self ..)) (by simp)
  | a :: l, b :: l', h1, h2, h => by
    rw [List.pairwise_cons] at h1 h2
    have hab : a = b := by
      rcases List.mem_cons.1 ((h a).1 (List.mem_cons_self ..)) with h3 | h3
      · exact h3
      · rcases List.mem_cons.1 ((h b).2 (List.mem_cons_self ..)) with h4 | h4
        · exact h4.symm
        · exact absurd (htr _ _ _ (h1.1 b h4) (h2.1 a h3)) (hir a)
    subst hab
    congr 1
    refine pairwise_ext htr hir h1.2 h2.2 fun x => ?_
    have hx := h x
    simp only [List.mem_cons] at hx
    constructor
    · intro h3
      rcases hx.1 (.inr h3) with rfl | h4
      · exact absurd (h1.1 x h3) (hir x)
      · exact h4
    · intro h3
      rcases hx.2 (.inr h3) with rfl | h4
      · exact absurd (h2.1 x h3) (hir x)
      · exact h4
end
/-- Numbers, rising, each once. -/
def tid (zs : List Int) : List Int := Lib.compact (zs.mergeSort fun x y => decide (x ≤ y))
theorem tid_props (zs : List Int) : (∀ x, x ∈ tid zs ↔ x ∈ zs) ∧ (tid zs).Pairwise (· < ·) := by
  have hs : (zs.mergeSort fun x y => decide (x ≤ y)).Pairwise fun a b => a = b ∨ a < b := by
    refine (List.pairwise_mergeSort (le := fun x y => decide (x ≤ y)) (fun a b c h1 h2 => by simp at *; omega) (fun a b => by simp; omega) zs).imp fun h => ?_
    simp at h; omega
  obtain ⟨h1, h2⟩ := compact_props (lt := (· < ·)) (fun a b c h1 h2 => by omega) hs
  exact ⟨fun x => (h1 x).trans (List.mem_mergeSort), h2⟩
/-- What has the right members is what is tidied. -/
theorem tid_eq {zs : List Int} {n : Nat} {p : Nat → Bool} (h : ∀ x : Int, x ∈ zs ↔ ∃ j : Nat, j < n ∧ p j = true ∧ x = j) : tid zs = ((List.range n).filter p).map (fun j : Nat => (j : Int)) := by
  obtain ⟨h1, h2⟩ := tid_props zs
  refine pairwise_ext (lt := (· < ·)) (fun a b c h1 h2 => by omega) (fun a => by omega) h2 ?_ fun x => ?_
  · rw [List.pairwise_map]
    exact ((List.pairwise_lt_range (n := n)).filter p).imp fun h => by omega
  · rw [h1, h, List.mem_map]
    constructor
    · rintro ⟨j, hj, hp, rfl⟩; exact ⟨j, by simp [hj, hp], rfl⟩
    · rintro ⟨j, hj, rfl⟩; simp at hj; exact ⟨j, hj.1, hj.2, rfl⟩
theorem RX_int (P : Program) (w : World) (S : Nat → Prop) (z : Int) (cs : List Value) : RX P w S (iV z) cs ↔ cs = [Value.int .i64 z] := by
  constructor
  · intro h; simp only [RX, RL] at h; obtain ⟨u, rfl, h⟩ := h; rw [h]
  · rintro rfl; simp only [RX, RL]; exact ⟨_, rfl, rfl⟩
theorem RX_str (P : Program) (w : World) (S : Nat → Prop) (z : List UInt8) (cs : List Value) : RX P w S (.str ⟨z.toArray⟩) cs ↔ cs = [encStr z] := by
  constructor
  · intro h; simp only [RX, RL] at h; obtain ⟨u, rfl, h⟩ := h; rw [h]
  · rintro rfl; simp only [RX, RL]; exact ⟨_, rfl, rfl⟩
theorem srt_len (zs : List Int) : (zs.mergeSort fun x y => decide (x ≤ y)).length = zs.length := List.length_mergeSort ..
theorem compact_len {α : Type} [Inhabited α] [DecidableEq α] (zs : List α) : (Lib.compact zs).length ≤ zs.length := by
  unfold Lib.compact Lib.compactUpTo
  rw [List.length_map]
  exact Nat.le_trans (List.length_filter_le ..) (by simp)

theorem tid_len (zs : List Int) : (tid zs).length ≤ zs.length := by
  have := compact_len (zs.mergeSort fun x y => decide (x ≤ y)); rw [srt_len] at this; exact this
theorem tid_fill (zs : List Int) : (tid zs ++ List.replicate (zs.length - (tid zs).length) 0).length = (zs.mergeSort fun x y => decide (x ≤ y)).length := by
  have := tid_len zs
  rw [srt_len]; simp; omega

theorem tidyP (q : Nat) (zs : List Int) (hz : zs.length ≤ 17592186044416) : FnX Try.prog 62 [.row q 900 zs.length] [(q, 900)] [.row 3 (zs.map iV)] (fun g r o g' => r = .row q 900 (tid zs).length ∧ o q 900 = .row 3 ((tid zs ++ List.replicate (zs.length - (tid zs).length) 0).map iV)) := by
  refine FnX.of (fn := Try.f62) ⟨Try.func62, by kernel_rfl, rfl⟩ Try.ntmps62 (by simp) fun w0 S0 l ob0 g0 K hrow hgl hK0 => ?_
  simp only [valsO, List.cons.injEq, and_true] at hrow
  simp only [List.mem_cons, List.not_mem_nil, or_false, forall_eq_or_imp, forall_eq, forall_const] at hgl
  have hE := hrow
  refine p_go fun hf => ?_
  refine p_callLib (fV := iV) (enc := Value.int .i64) zs (zs.mergeSort fun x y => decide (x ≤ y)) (.tup []) (hb := ⟨Try.func84, by kernel_rfl, rfl⟩) (he := TI.cells F.ti3.h) (hf := RX_int _) (hl := srt_len zs) (hc := fun b cap w h1 h2 h3 => (Try.slices_Sort_int b 0 cap zs w h1 h2 (by omega)).mono fun e w' h4 => ⟨⟨.tuple #[], h4.1, fun S at_ _ => by rw [VR]; exact ⟨_, rfl, by simp [VRs]⟩⟩, h4.2⟩) (hnil := fun _ w => (Try.slices_Sort_int_none none 0 w).mono fun e w' h4 => ⟨⟨.tuple #[], h4.1, fun S at_ _ => by rw [VR]; exact ⟨_, rfl, by simp [VRs]⟩⟩, 0, #[], by rw [h4.2]; simp⟩) (h := ?_)
  refine p_go fun hf => ?_
  refine p_callLib (fV := iV) (enc := Value.int .i64) (zs.mergeSort fun x y => decide (x ≤ y)) (tid zs ++ List.replicate (zs.length - (tid zs).length) 0) (.row q 900 (tid zs).length) (hy := by rw [srt_len]; exact eV_) (hb := ⟨Try.func85, by kernel_rfl, rfl⟩) (he := TI.cells F.ti3.h) (hf := RX_int _) (hl := tid_fill zs) (hc := fun b cap w h1 h2 h3 => (by have h9 := Try.slices_Compact_int b 0 cap (zs.mergeSort fun x y => decide (x ≤ y)) w h1 (by rw [srt_len]; omega) h3; rw [srt_len] at h9 ⊢; exact h9.mono fun e w' h4 => ⟨⟨_, h4.1, fun S at_ hat => by rw [VR]; exact ⟨_, _, _, hat, tid_len zs, rfl⟩⟩, by obtain ⟨n, h5⟩ := h4.2; exact ⟨n, #[], by rw [h5]; simp [tid]⟩⟩)) (hnil := fun hz w => (Try.slices_Compact_int_empty none 0 w).mono fun e w' h4 => ⟨⟨_, h4.1, fun S at_ hat => by rw [VR]; exact ⟨_, _, _, hat, by have := tid_len zs; have h8 := congrArg List.length hz; rw [srt_len] at h8; simp at h8; simp [h8, tid, Lib.compact, Lib.compactUpTo], by have h8 := congrArg List.length hz; rw [srt_len] at h8; simp at h8; simp [h8, tid, Lib.compact, Lib.compactUpTo]⟩⟩, 0, #[], by rw [h4.2]; simp⟩) (h := ?_)
  refine p_go ?_
  refine p_retE1 (v := .row q 900 (tid zs).length) rfl eV_ (hK0 _ _ _ (by first | (dsimp only; omega) | omega) (by (try dsimp only); repeat (first | exact hlow | exact LowQ.refl | refine LowQ.or_ ?_ (by assumption) | refine LowQ.up ?_ (by omega) | refine LowQ.at_ ?_ (by simp))) (⟨rfl, oB_⟩))

end Go.Proofs.Ytjdhkopjigijfaa
/-
  Which words are an expression's, in plain words; where a node's words end.
-/
set_option maxHeartbeats 4000000
set_option linter.unusedSimpArgs false
set_option linter.unusedVariables false
namespace Go.Proofs.Ytjdhkopjigijfaa
open Go.RowKit
attribute [local irreducible] Wk Tr
/-- From a to c by any number of parts, the last f of which are looked for. -/
def starF (s : Nat → Nat → Bool) (n : Nat) : Nat → Nat → Nat → Bool
  | 0, a, c => decide (c = a)
  | f + 1, a, c => decide (c = a) || (List.range (n + 1)).any fun b => decide (a < b) && s a b && starF s n f b c
mutual
/-- Is the part of a word from i to j one of an expression's? -/
def spanB (w : List ByteArray) : Rx → Nat → Nat → Bool
  | .mk op nm ks, i, j =>
    if op = 1 then decide (j = i + 1) && decide (w[i]? = some nm)
    else if op = 2 then decide (j = i + 1) && decide (i < w.length)
    else if op = 3 then decide (j = i)
    else if op = 5 then seqB w ks i j
    else if op = 6 then altB w ks i j
    else if op = 7 then starF (hdB w ks) w.length w.length i j
    else if op = 8 then decide (i ≤ j) && !hdB w ks i j
    else false
def hdB (w : List ByteArray) : List Rx → Nat → Nat → Bool
  | [], _, _ => false
  | k :: _, i, j => spanB w k i j
def seqB (w : List ByteArray) : List Rx → Nat → Nat → Bool
  | [], i, j => decide (j = i)
  | k :: ks, i, j => (List.range (w.length + 1)).any fun m => spanB w k i m && seqB w ks m j
def altB (w : List ByteArray) : List Rx → Nat → Nat → Bool
  | [], _, _ => false
  | k :: ks, i, j => spanB w k i j || altB w ks i j
end
theorem spanB_eq (w : List ByteArray) (r : Rx) (i j : Nat) : spanB w r i j = (if r.op = 1 then decide (j = i + 1) && decide (w[i]? = some r.name)
    else if r.op = 2 then decide (j = i + 1) && decide (i < w.length) else if r.op = 3 then decide (j = i) else if r.op = 5 then seqB w r.kids i j else if r.op = 6 then altB w r.kids i j
    else if r.op = 7 then starF (hdB w r.kids) w.length w.length i j else if r.op = 8 then decide (i ≤ j) && !hdB w r.kids i j else false) := by cases r; rw [spanB]; rfl
theorem hdB_at {w : List ByteArray} {l : List Rx} (h : 0 < l.length) (i j : Nat) : hdB w l i j = spanB w l[0] i j := by cases l with | nil => simp at h | cons a l => rw [hdB]; rfl
theorem altB_any (w : List ByteArray) (i j : Nat) : ∀ l : List Rx, altB w l i j = l.any fun k => spanB w k i j
  | [] => rfl
  | k :: l => by rw [altB, altB_any w i j l, List.any_cons]
theorem seqB_snoc (w : List ByteArray) (k : Rx) (j : Nat) (hj : j ≤ w.length) : ∀ (l : List Rx) (i : Nat), i ≤ w.length → (seqB w (l ++ [k]) i j = true ↔ ∃ m, m ≤ w.length ∧ seqB w l i m = true ∧ spanB w k m j = true)
  | [], i, hi => by
    rw [List.nil_append, seqB]
    simp only [seqB, List.any_eq_true, List.mem_range, Bool.and_eq_true, decide_eq_true_eq]
    constructor
    · rintro ⟨m, hm, h1, rfl⟩; exact ⟨i, hi, rfl, h1⟩
    · rintro ⟨m, hm, rfl, h1⟩; exact ⟨j, by omega, h1, rfl⟩
  | a :: l, i, hi => by
    rw [List.cons_append, seqB, List.any_eq_true]
    constructor
    · rintro ⟨m, hm, h1⟩
      rw [List.mem_range] at hm
      rw [Bool.and_eq_true, seqB_snoc w k j hj l m (by omega)] at h1
      obtain ⟨h1, m2, h2, h3, h4⟩ := h1
      refine ⟨m2, h2, ?_, h4⟩
      rw [seqB, List.any_eq_true]
      exact ⟨m, List.mem_range.2 hm, by rw [h1, h3]; rfl⟩
    · rintro ⟨m2, h2, h3, h4⟩
      rw [seqB, List.any_eq_true] at h3
      obtain ⟨m, hm, h5⟩ := h3
      rw [Bool.and_eq_true] at h5
      rw [List.mem_range] at hm
      exact ⟨m, List.mem_range.2 hm, by rw [Bool.and_eq_true, seqB_snoc w k j hj l m (by omega)]; exact ⟨h5.1, m2, h2, h5.2, h4⟩⟩
/-- Words go forwards. -/
theorem starF_le {s : Nat → Nat → Bool} {n : Nat} (hs : ∀ a b, s a b = true → a ≤ b) : ∀ f a c, starF s n f a c = true → a ≤ c
  | 0, a, c, h => by rw [starF, decide_eq_true_eq] at h; omega
  | f + 1, a, c, h => by
    rw [starF, Bool.or_eq_true, decide_eq_true_eq, List.any_eq_true] at h
    rcases h with h | ⟨b, _, h⟩
    · omega
    · simp only [Bool.and_eq_true, decide_eq_true_eq] at h
      have := starF_le hs f b c h.2
      omega
theorem seqB_le {w : List ByteArray} : ∀ (l : List Rx) (i j : Nat), (∀ k ∈ l, ∀ i j, spanB w k i j = true → i ≤ j) → seqB w l i j = true → i ≤ j
  | [], i, j, _, h => by rw [seqB, decide_eq_true_eq] at h; omega
  | k :: l, i, j, hk, h => by
    rw [seqB, List.any_eq_true] at h
    obtain ⟨m, _, h⟩ := h
    rw [Bool.and_eq_true] at h
    have h1 := hk k (List.mem_cons_self ..) i m h.1
    have h2 := seqB_le l m j (fun k' hk' => hk k' (List.mem_cons_of_mem _ hk')) h.2
    omega
theorem spanB_le (w : List ByteArray) (r : Rx) : ∀ i j, spanB w r i j = true → i ≤ j := by
  induction r using Rx.ind with
  | _ r ih =>
    intro i j h
    have hhd : ∀ a b, hdB w r.kids a b = true → a ≤ b := fun a b h => by
      cases hk : r.kids with
      | nil => rw [hk, hdB] at h; cases h
      | cons k l => rw [hk, hdB] at h; exact ih k (by rw [hk]; exact List.mem_cons_self ..) a b h
    rw [spanB_eq] at h
    split at h
    · simp at h; omega
    · split at h
      · simp at h; omega
      · split at h
        · simp at h; omega
        · split at h
          · exact seqB_le _ _ _ ih h
          · split at h
            · rw [altB_any, List.any_eq_true] at h
              obtain ⟨k, hk, h⟩ := h
              exact ih k hk i j h
            · split at h
              · exact starF_le hhd _ _ _ h
              · split at h
                · simp at h; exact h.1
                · cases h
theorem hdB_le {w : List ByteArray} {l : List Rx} (a b : Nat) (h : hdB w l a b = true) : a ≤ b := by
  cases l with
  | nil => rw [hdB] at h; cases h
  | cons k l => rw [hdB] at h; exact spanB_le w k a b h
/-- What holds of a set that has a beginning and what follows has all of star. -/
theorem starF_mem {s : Nat → Nat → Bool} {n : Nat} {S : Nat → Prop} (hcl : ∀ a b, S a → b ≤ n → s a b = true → S b) : ∀ f a c, S a → starF s n f a c = true → S c
  | 0, a, c, ha, h => by rw [starF, decide_eq_true_eq] at h; exact h ▸ ha
  | f + 1, a, c, ha, h => by
    rw [starF, Bool.or_eq_true, decide_eq_true_eq, List.any_eq_true] at h
    rcases h with h | ⟨b, hb, h⟩
    · exact h ▸ ha
    · simp only [Bool.and_eq_true, decide_eq_true_eq] at h
      rw [List.mem_range] at hb
      exact starF_mem hcl f b c (hcl a b ha (by omega) h.1.2) h.2
theorem starF_step {s : Nat → Nat → Bool} {n : Nat} (hs : ∀ a b, s a b = true → a ≤ b) : ∀ f a b c, starF s n f a b = true → n - a ≤ f → c ≤ n → s b c = true → starF s n f a c = true
  | 0, a, b, c, h, h1, h2, h3 => by
    have hbc := hs b c h3
    rw [starF, decide_eq_true_eq] at h
    rw [starF, decide_eq_true_eq]
    omega
  | f + 1, a, b, c, h, h1, h2, h3 => by
    have hbc := hs b c h3
    by_cases hbc' : b = c
    · exact hbc' ▸ h
    rw [starF, Bool.or_eq_true, decide_eq_true_eq, List.any_eq_true] at h
    rcases h with rfl | ⟨m, hm, h⟩
    · rw [starF, Bool.or_eq_true, List.any_eq_true]
      right
      refine ⟨c, List.mem_range.2 (by omega), ?_⟩
      simp only [Bool.and_eq_true, decide_eq_true_eq]
      refine ⟨⟨by omega, h3⟩, ?_⟩
      cases f <;> rw [starF] <;> simp
    · simp only [Bool.and_eq_true, decide_eq_true_eq] at h
      rw [List.mem_range] at hm
      rw [starF, Bool.or_eq_true, List.any_eq_true]
      right
      refine ⟨m, List.mem_range.2 hm, ?_⟩
      simp only [Bool.and_eq_true, decide_eq_true_eq]
      exact ⟨h.1, starF_step hs f m b c h.2 (by omega) h2 h3⟩
/-- The places at which a node's words end. -/
def endsL (w : List ByteArray) (r : Rx) (i : Nat) : List Nat := (List.range (w.length + 1)).filter (spanB w r i)
def endsI (w : List ByteArray) (r : Rx) (i : Nat) : List Int := (endsL w r i).map fun j : Nat => (j : Int)
theorem mem_endsI {w : List ByteArray} {r : Rx} {i : Nat} {x : Int} : x ∈ endsI w r i ↔ ∃ j : Nat, j < w.length + 1 ∧ spanB w r i j = true ∧ x = j := by
  unfold endsI endsL
  rw [List.mem_map]
  constructor
  · rintro ⟨j, hj, rfl⟩; simp at hj; exact ⟨j, hj.1, hj.2, rfl⟩
  · rintro ⟨j, hj, hp, rfl⟩; exact ⟨j, by simp [hj, hp], rfl⟩
theorem endsI_le (w : List ByteArray) (r : Rx) (i : Nat) : (endsI w r i).length ≤ w.length + 1 := by
  unfold endsI endsL
  rw [List.length_map]
  exact Nat.le_trans (List.length_filter_le ..) (by simp)
theorem filt_one {n m : Nat} {p : Nat → Bool} (hm : m < n) (h : ∀ j, p j = decide (j = m)) : (List.range n).filter p = [m] := by
  refine pairwise_ext (lt := (· < ·)) (fun a b c h1 h2 => by omega) (fun a => by omega) ((List.pairwise_lt_range (n := n)).filter p) (List.pairwise_singleton _ _) fun x => ?_
  simp [h]; intro e; omega
theorem filt_none {n : Nat} {p : Nat → Bool} (h : ∀ j, j < n → p j = false) : (List.range n).filter p = [] := by
  rw [List.filter_eq_nil_iff]
  intro x hx; rw [h x (List.mem_range.1 hx)]; simp
theorem ends_name {w : List ByteArray} {r : Rx} {i : Nat} (hi : i < w.length) (h : r.op = 1 ∧ w[i]? = some r.name ∨ r.op = 2) : endsI w r i = [((i + 1 : Nat) : Int)] := by
  unfold endsI endsL
  rw [filt_one (m := i + 1) (by omega)]; · rfl
  intro j
  rw [spanB_eq]
  rcases h with ⟨h, h1⟩ | h
  · rw [if_pos h, decide_eq_true h1, Bool.and_true]
  · rw [if_neg (by omega), if_pos h, decide_eq_true hi, Bool.and_true]
theorem ends_not {w : List ByteArray} {r : Rx} {i : Nat} (h : r.op = 1 ∧ w[i]? ≠ some r.name ∨ r.op = 2 ∧ ¬ i < w.length ∨ (r.op ≠ 1 ∧ r.op ≠ 2 ∧ r.op ≠ 3 ∧ r.op ≠ 5 ∧ r.op ≠ 6 ∧ r.op ≠ 7 ∧ r.op ≠ 8)) : endsI w r i = [] := by
  unfold endsI endsL
  rw [filt_none]; · rfl
  intro j _
  rw [spanB_eq]
  rcases h with ⟨h, h1⟩ | ⟨h, h1⟩ | ⟨h1, h2, h3, h4, h5, h6, h7⟩
  · rw [if_pos h, decide_eq_false h1, Bool.and_false]
  · rw [if_neg (by omega), if_pos h, decide_eq_false h1, Bool.and_false]
  · rw [if_neg h1, if_neg h2, if_neg h3, if_neg h4, if_neg h5, if_neg h6, if_neg h7]
theorem ends_empty {w : List ByteArray} {r : Rx} {i : Nat} (hi : i ≤ w.length) (h : r.op = 3) : endsI w r i = [(i : Int)] := by
  unfold endsI endsL
  rw [filt_one (m := i) (by omega)]; · rfl
  intro j
  rw [spanB_eq, if_neg (by omega), if_neg (by omega), if_pos h]
/-- The places behind some Kids of a row. -/
def seqI (w : List ByteArray) (l : List Rx) (i : Nat) : List Int := ((List.range (w.length + 1)).filter (seqB w l i)).map fun j : Nat => (j : Int)
theorem mem_seqI {w : List ByteArray} {l : List Rx} {i : Nat} {x : Int} : x ∈ seqI w l i ↔ ∃ j : Nat, j < w.length + 1 ∧ seqB w l i j = true ∧ x = j := by
  unfold seqI
  rw [List.mem_map]
  constructor
  · rintro ⟨j, hj, rfl⟩; simp at hj; exact ⟨j, hj.1, hj.2, rfl⟩
  · rintro ⟨j, hj, hp, rfl⟩; exact ⟨j, by simp [hj, hp], rfl⟩
theorem seqI_nil {w : List ByteArray} {i : Nat} (hi : i ≤ w.length) : seqI w [] i = [(i : Int)] := by
  unfold seqI
  rw [filt_one (m := i) (by omega)]; · rfl
  intro j; rw [seqB]
theorem seqI_le (w : List ByteArray) (l : List Rx) (i : Nat) : (seqI w l i).length ≤ w.length + 1 := by
  unfold seqI
  rw [List.length_map]
  exact Nat.le_trans (List.length_filter_le ..) (by simp)
theorem ends_seq {w : List ByteArray} {r : Rx} {i : Nat} (h : r.op = 5) : endsI w r i = seqI w r.kids i := by
  unfold endsI endsL seqI
  congr 2; funext j
  rw [spanB_eq, if_neg (by omega), if_neg (by omega), if_neg (by omega), if_pos h]
/-- The places behind a node from some places. -/
def behZ (w : List ByteArray) (r : Rx) (l : List Nat) : List Int := l.flatMap (endsI w r)
theorem seq_step {w : List ByteArray} {l : List Rx} {k : Rx} {i : Nat} (hi : i ≤ w.length) : tid (behZ w k ((List.range (w.length + 1)).filter (seqB w l i))) = seqI w (l ++ [k]) i := by
  unfold seqI
  refine tid_eq fun x => ?_
  unfold behZ
  rw [List.mem_flatMap]
  constructor
  · rintro ⟨m, hm, hx⟩
    obtain ⟨j, hj, hs, rfl⟩ := mem_endsI.1 hx
    simp only [List.mem_filter, List.mem_range] at hm
    exact ⟨j, hj, (seqB_snoc w k j (by omega) l i hi).2 ⟨m, by omega, hm.2, hs⟩, rfl⟩
  · rintro ⟨j, hj, hs, rfl⟩
    obtain ⟨m, hm, h1, h2⟩ := (seqB_snoc w k j (by omega) l i hi).1 hs
    exact ⟨m, by simp [h1]; omega, mem_endsI.2 ⟨j, hj, h2, rfl⟩⟩
theorem ends_alt {w : List ByteArray} {r : Rx} {i : Nat} (h : r.op = 6) : tid (r.kids.flatMap fun k => endsI w k i) = endsI w r i := by
  unfold endsI endsL
  refine tid_eq fun x => ?_
  rw [List.mem_flatMap]
  have hsp : ∀ j, spanB w r i j = r.kids.any fun k => spanB w k i j := fun j => by
    rw [spanB_eq, if_neg (by omega), if_neg (by omega), if_neg (by omega), if_neg (by omega), if_pos h, altB_any]
  constructor
  · rintro ⟨k, hk, hx⟩
    obtain ⟨j, hj, hs, rfl⟩ := mem_endsI.1 hx
    exact ⟨j, hj, by rw [hsp, List.any_eq_true]; exact ⟨k, hk, hs⟩, rfl⟩
  · rintro ⟨j, hj, hs, rfl⟩
    rw [hsp, List.any_eq_true] at hs
    obtain ⟨k, hk, hs⟩ := hs
    exact ⟨k, hk, mem_endsI.2 ⟨j, hj, hs, rfl⟩⟩
theorem ends_star {w : List ByteArray} {r : Rx} {i : Nat} (hi : i ≤ w.length) (h : r.op = 7) {L : List Int} (h0 : (i : Int) ∈ L) (hm : ∀ x ∈ L, ∃ j : Nat, j ≤ w.length ∧ x = j ∧ starF (hdB w r.kids) w.length w.length i j = true)
    (hcl : ∀ a b : Nat, (a : Int) ∈ L → b ≤ w.length → hdB w r.kids a b = true → (b : Int) ∈ L) : tid L = endsI w r i := by
  unfold endsI endsL
  refine tid_eq fun x => ?_
  have hsp : ∀ j, spanB w r i j = starF (hdB w r.kids) w.length w.length i j := fun j => by
    rw [spanB_eq, if_neg (by omega), if_neg (by omega), if_neg (by omega), if_neg (by omega), if_neg (by omega), if_pos h]
  constructor
  · intro hx
    obtain ⟨j, hj, rfl, hs⟩ := hm x hx
    exact ⟨j, by omega, by rw [hsp]; exact hs, rfl⟩
  · rintro ⟨j, hj, hs, rfl⟩
    rw [hsp] at hs
    exact starF_mem (S := fun a => (a : Int) ∈ L) hcl _ i j h0 hs
theorem star_self {s : Nat → Nat → Bool} {n i : Nat} : ∀ f, starF s n f i i = true
  | 0 => by rw [starF]; simp
  | f + 1 => by rw [starF]; simp
theorem star_more {w : List ByteArray} {l : List Rx} {i b c : Nat} (h : starF (hdB w l) w.length w.length i b = true) (hc : c ≤ w.length) (hs : hdB w l b c = true) : starF (hdB w l) w.length w.length i c = true := starF_step hdB_le _ _ _ _ h (by omega) hc hs
theorem ends_no {w : List ByteArray} {r : Rx} {i : Nat} (h : r.op = 8) (hk : 0 < r.kids.length) : endsI w r i = ((List.range (w.length + 1)).filter fun j => decide (i ≤ j) && !decide ((j : Int) ∈ endsI w r.kids[0] i)).map fun j : Nat => (j : Int) := by
  conv => lhs; unfold endsI endsL
  congr 1
  refine List.filter_congr fun j hj => ?_
  rw [List.mem_range] at hj
  rw [spanB_eq, if_neg (by omega), if_neg (by omega), if_neg (by omega), if_neg (by omega), if_neg (by omega), if_neg (by omega), if_pos h, hdB_at hk]
  congr 2
  rw [Bool.eq_iff_iff, decide_eq_true_eq, mem_endsI]
  constructor
  · intro h; exact ⟨j, hj, h, rfl⟩
  · rintro ⟨j', _, h, e⟩
    have : j = j' := by omega
    exact this ▸ h
end Go.Proofs.Ytjdhkopjigijfaa
