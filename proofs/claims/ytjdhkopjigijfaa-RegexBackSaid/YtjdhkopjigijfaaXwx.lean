import Derived.Test.YtjdhkopjigijfaaXrs
/-
  The names of an expression: the program's, the reference's.
-/
set_option linter.unusedSimpArgs false
set_option linter.unusedVariables false
set_option maxHeartbeats 4000000
namespace Go.Proofs.Ytjdhkopjigijfaa
open Go.RowKit
attribute [local irreducible] Wk Tr
theorem checkRE (x : Rx) (hs : x.Sm) : FnC Try.prog 20 [rxA x] (fun r => r = iV (errE x)) := by
  rw [err_eq]; exact checkR x hs
abbrev bsL (s : ByteArray) : List UInt8 := s.data.toList
abbrev zV (z : List UInt8) : V := .str ⟨z.toArray⟩
theorem zV_bs (s : ByteArray) : zV (bsL s) = .str s := by obtain ⟨⟨l⟩⟩ := s; rfl
theorem strs_eq (l : List ByteArray) : l.map V.str = (l.map bsL).map zV := by
  rw [List.map_map]; exact List.map_congr_left fun s _ => (zV_bs s).symm
theorem bsL_inj {a b : ByteArray} (h : bsL a = bsL b) : a = b := by
  obtain ⟨⟨a⟩⟩ := a; obtain ⟨⟨b⟩⟩ := b; simpa using h
theorem blt_irr (a : List UInt8) : ¬ a < a := List.lt_irrefl a
theorem blt_trans {a b c : List UInt8} (h : a < b) (h' : b < c) : a < c := List.lt_trans h h'
theorem blt_tri {a b : List UInt8} (h : ¬ a < b) (h' : a ≠ b) : b < a := by
  have h1 : b ≤ a := List.not_lt.1 h
  rcases List.le_iff_lt_or_eq.1 h1 with h2 | h2
  · exact h2
  · exact absurd h2.symm h'
theorem strLt_iff {a b : ByteArray} : strLt a b = true ↔ bsL a < bsL b := by
  unfold strLt
  rw [bytesLess_eq, decide_eq_true_eq, ByteArray.toList_eq, ByteArray.toList_eq]
def srtS (zs : List (List UInt8)) : List (List UInt8) := zs.mergeSort fun x y => decide (x ≤ y)
/-- Texts, rising, each once. -/
def tidS (zs : List (List UInt8)) : List (List UInt8) := Lib.compact (srtS zs)
theorem srtS_len (zs : List (List UInt8)) : (srtS zs).length = zs.length := List.length_mergeSort ..
theorem tidS_props (zs : List (List UInt8)) : (∀ x, x ∈ tidS zs ↔ x ∈ zs) ∧ (tidS zs).Pairwise (· < ·) := by
  have hs : (srtS zs).Pairwise fun a b => a = b ∨ a < b := by
    refine (List.pairwise_mergeSort (le := fun x y => decide (x ≤ y)) (fun a b c h1 h2 => by simp only [decide_eq_true_eq] at *; exact List.le_trans h1 h2) (fun a b => by simp only [Bool.or_eq_true, decide_eq_true_eq]; exact List.le_total a b) zs).imp fun h => ?_
    simp only [decide_eq_true_eq] at h
    rcases List.le_iff_lt_or_eq.1 h with h | h
    · exact .inr h
    · exact .inl h
  obtain ⟨h1, h2⟩ := compact_props (lt := (· < ·)) (fun a b c h1 h2 => blt_trans h1 h2) hs
  exact ⟨fun x => (h1 x).trans (List.mem_mergeSort), h2⟩
theorem tidS_len (zs : List (List UInt8)) : (tidS zs).length ≤ zs.length := by
  have := compact_len (srtS zs); rw [srtS_len] at this; exact this
theorem tidS_fill (zs : List (List UInt8)) : (tidS zs ++ List.replicate (zs.length - (tidS zs).length) []).length = (srtS zs).length := by
  have := tidS_len zs
  rw [srtS_len]; simp; omega
theorem take_tidS (zs : List (List UInt8)) (n : Nat) : ((tidS zs ++ List.replicate n []).map zV).take (tidS zs).length = (tidS zs).map zV := by
  rw [List.map_append, List.take_left' (by simp)]
/-- What has been put in, rising, each once. -/
def Srt (out l : List ByteArray) : Prop := out.Pairwise (fun a b => bsL a < bsL b) ∧ ∀ x, x ∈ out ↔ x ∈ l
theorem Srt.nil : Srt [] [] := ⟨.nil, fun _ => Iff.rfl⟩
theorem Srt.same {out l : List ByteArray} {k : Nat} {x : ByteArray} (h : Srt out l) (hk : k < out.length) (he : out[k] = x) : Srt out (l ++ [x]) :=
  ⟨h.1, fun y => by
    rw [List.mem_append, List.mem_singleton, h.2]
    exact ⟨.inl, fun h1 => h1.elim id fun h2 => by rw [h2, ← he, ← h.2]; exact List.getElem_mem hk⟩⟩
theorem Srt.put {out l : List ByteArray} {k : Nat} {x : ByteArray} (h : Srt out l) (hk : k ≤ out.length) (hlow : ∀ j (hj : j < out.length), j < k → strLt out[j] x = true) (hup : k = out.length ∨ ∃ hj : k < out.length, strLt out[k] x = false ∧ out[k] ≠ x) : Srt (out.take k ++ [x] ++ out.drop k) (l ++ [x]) := by
  have hp := h.1
  rw [← List.take_append_drop k out, List.pairwise_append] at hp
  obtain ⟨h1, h2, h3⟩ := hp
  have ha : ∀ a ∈ out.take k, bsL a < bsL x := fun a ha => by
    obtain ⟨j, hj, rfl⟩ := List.mem_iff_getElem.1 ha
    rw [List.length_take] at hj
    rw [List.getElem_take]
    exact strLt_iff.1 (hlow j (by omega) (by omega))
  have hb : ∀ b ∈ out.drop k, bsL x < bsL b := fun b hb => by
    rcases hup with rfl | ⟨hj, h4, h5⟩
    · simp at hb
    · have h6 : bsL x < bsL out[k] := blt_tri (fun h => by rw [strLt_iff.2 h] at h4; cases h4) fun h => h5 (bsL_inj h)
      rw [List.drop_eq_getElem_cons hj] at hb h2
      rcases List.mem_cons.1 hb with rfl | hb
      · exact h6
      · exact blt_trans h6 ((List.pairwise_cons.1 h2).1 b hb)
  refine ⟨?_, fun y => ?_⟩
  · rw [List.pairwise_append, List.pairwise_append]
    refine ⟨⟨h1, List.pairwise_singleton .., fun a h4 b h5 => by rw [List.mem_singleton] at h5; exact h5 ▸ ha a h4⟩, h2, fun a h4 b h5 => ?_⟩
    rcases List.mem_append.1 h4 with h4 | h4
    · exact h3 a h4 b h5
    · rw [List.mem_singleton] at h4; exact h4 ▸ hb b h5
  · have h4 := h.2 y
    rw [← List.take_append_drop k out, List.mem_append] at h4
    simp only [List.mem_append, List.mem_singleton, ← h4]
    constructor
    · rintro ((h | h) | h)
      · exact .inl (.inl h)
      · exact .inr h
      · exact .inl (.inr h)
    · rintro ((h | h) | h)
      · exact .inl (.inl h)
      · exact .inr h
      · exact .inl (.inr h)
theorem Srt.fin {out l : List ByteArray} (h : Srt out l) : out.map V.str = (tidS (l.map bsL)).map zV := by
  rw [strs_eq]
  congr 1
  obtain ⟨h1, h2⟩ := tidS_props (l.map bsL)
  refine pairwise_ext (lt := (· < ·)) (fun a b c h1 h2 => blt_trans h1 h2) blt_irr (List.pairwise_map.2 h.1) h2 fun x => ?_
  rw [h1, List.mem_map, List.mem_map]
  simp only [h.2]
mutual
/-- All names, in order: as the program gathers them. -/
def naG : Rx → List ByteArray
  | .mk op nm ks => (if op = 1 then [nm] else []) ++ naGL ks
def naGL : List Rx → List ByteArray
  | [] => []
  | k :: ks => naG k ++ naGL ks
end
mutual
/-- As the reference does. -/
def naR : Rx → List ByteArray
  | .mk op nm ks => if op = 1 then [nm] else naRL ks
def naRL : List Rx → List ByteArray
  | [] => []
  | k :: ks => naR k ++ naRL ks
end
def naT (r : Rx) : List ByteArray := if r.op = 1 then [r.name] else []
theorem naG_eq (r : Rx) : naG r = naT r ++ naGL r.kids := by cases r; rw [naG]; rfl
theorem naR_eq (r : Rx) : naR r = if r.op = 1 then [r.name] else naRL r.kids := by cases r; rw [naR]; rfl
theorem naGL_snoc : ∀ (l : List Rx) (k : Rx), naGL (l ++ [k]) = naGL l ++ naG k
  | [], k => by simp [naGL]
  | a :: l, k => by rw [List.cons_append, naGL, naGL, naGL_snoc l k, List.append_assoc]
theorem naRL_snoc : ∀ (l : List Rx) (k : Rx), naRL (l ++ [k]) = naRL l ++ naR k
  | [], k => by simp [naRL]
  | a :: l, k => by rw [List.cons_append, naRL, naRL, naRL_snoc l k, List.append_assoc]
theorem naG_len (r : Rx) : (naG r).length ≤ r.sz := by
  induction r using Rx.ind with
  | _ r ih =>
    have key : ∀ l : List Rx, (∀ k ∈ l, (naG k).length ≤ k.sz) → (naGL l).length ≤ Rx.szL l := by
      intro l
      induction l with
      | nil => intro _; simp [naGL]
      | cons a l ihl => intro h; rw [naGL, Rx.szL, List.length_append]; have := h a (List.mem_cons_self ..); have := ihl fun k hk => h k (List.mem_cons_of_mem _ hk); omega
    have h1 := key r.kids ih
    have h2 : (naT r).length ≤ 1 := by unfold naT; split <;> simp
    rw [naG_eq, List.length_append, r.sz_eq]; omega
theorem naGL_len (l : List Rx) : (naGL l).length ≤ Rx.szL l := by
  induction l with
  | nil => simp [naGL]
  | cons a l ih => rw [naGL, Rx.szL, List.length_append]; have := naG_len a; omega
theorem naR_len (r : Rx) : (naR r).length ≤ r.sz := by
  induction r using Rx.ind with
  | _ r ih =>
    have key : ∀ l : List Rx, (∀ k ∈ l, (naR k).length ≤ k.sz) → (naRL l).length ≤ Rx.szL l := by
      intro l
      induction l with
      | nil => intro _; simp [naRL]
      | cons a l ihl => intro h; rw [naRL, Rx.szL, List.length_append]; have := h a (List.mem_cons_self ..); have := ihl fun k hk => h k (List.mem_cons_of_mem _ hk); omega
    have h1 := key r.kids ih
    rw [naR_eq, r.sz_eq]; split
    · simp
    · omega
theorem naRL_len (l : List Rx) : (naRL l).length ≤ Rx.szL l := by
  induction l with
  | nil => simp [naRL]
  | cons a l ih => rw [naRL, Rx.szL, List.length_append]; have := naR_len a; omega
theorem right_leaf {r : Rx} (hr : rightB r = true) (h : r.op = 1) : r.kids = [] := by
  rw [r_leaf1 h] at hr
  simp only [Bool.and_eq_true, decide_eq_true_eq] at hr
  exact List.eq_nil_of_length_eq_zero (by omega)
theorem na_same (r : Rx) (hr : rightB r = true) : naG r = naR r := by
  induction r using Rx.ind with
  | _ r ih =>
    have hk : ∀ k ∈ r.kids, rightB k = true := by
      rw [rightB_eq, Bool.and_eq_true, List.all_eq_true] at hr; exact hr.1
    have key : ∀ l : List Rx, (∀ k ∈ l, naG k = naR k) → naGL l = naRL l := by
      intro l
      induction l with
      | nil => intro _; rw [naGL, naRL]
      | cons a l ihl => intro h; rw [naGL, naRL, h a (List.mem_cons_self ..), ihl fun k hk => h k (List.mem_cons_of_mem _ hk)]
    rw [naG_eq, naR_eq, naT]
    by_cases h1 : r.op = 1
    · rw [if_pos h1, if_pos h1]
      have h2 : r.kids = [] := right_leaf hr h1
      rw [h2, naGL]; rfl
    · rw [if_neg h1, if_neg h1, key _ fun k hk' => ih k hk' (hk k hk')]; rfl
/-- The answer of both. -/
def nmZ (x : Rx) : List (List UInt8) := if errE x = 0 then tidS ((naG x).map bsL) else []
abbrev nmL (x : Rx) : List V := (nmZ x).map zV

theorem gather_row (x : Rx) (hs : x.kids.length ≤ 17592186044416) (hrec : ∀ k ∈ x.kids, ∀ (a : Nat) (l0 : List ByteArray), l0.length + k.sz ≤ 1000000 → FnX Try.prog 44 [rxA k, .row a 900 l0.length] [(a, 900)] [.row 9 (l0.map V.str)] (fun g v o g' => ∃ a', (a' = a ∨ g < a') ∧ a' ≤ g' ∧ v = .row a' 900 (l0 ++ naG k).length ∧ o a' 900 = .row 9 ((l0 ++ naG k).map V.str))) (a : Nat) (l0 : List ByteArray) (hsz : l0.length + x.sz ≤ 1000000) : FnX Try.prog 44 [rxA x, .row a 900 l0.length] [(a, 900)] [.row 9 (l0.map V.str)] (fun g v o g' => ∃ a', (a' = a ∨ g < a') ∧ a' ≤ g' ∧ v = .row a' 900 (l0 ++ naG x).length ∧ o a' 900 = .row 9 ((l0 ++ naG x).map V.str)) := by
  refine FnX.of (fn := Try.f44) ⟨Try.func44, by kernel_rfl, rfl⟩ Try.ntmps44 (by simp) fun w0 S0 l ob0 g0 K hrow hgl hK0 => ?_
  simp only [valsO, List.cons.injEq, and_true] at hrow
  simp only [List.mem_cons, List.not_mem_nil, or_false, forall_eq_or_imp, forall_eq, forall_const] at hgl
  have hE := hrow
  refine p_go ?_
  refine p_splitC (s := 9) (ht := fun hc9 => ?_) (hf := fun hc9 => ?_)
  · have h1 : x.op = 1 := by simpa using hc9
    have hT : naT x = [x.name] := by rw [naT, if_pos h1]
    refine p_go fun hf => ?_
    refine p_buildSlice (ht := Try.underlying34) (hi := F.ti9.h) (h := ?_)
    refine p_append (ht := Try.underlying34) (hi := F.ti9.h) (u := .row _ 13 1) (ys := [.str x.name]) (hnl := by simp) (hy := ⟨.inl oB_, rfl⟩) (k := l0.length + 1) (hm := by simp) (hlim := by have := x.sz_pos; simp <;> omega) (h := ?_)
    refine p_assign (h := ?_)
    refine p_end ?_
    refine p_seq ?_
    refine p_seq (p_region fun hf => ?_)
    (first | refine p_fieldPtr (hf := F.fld25_2.h) (h := ?_) | refine p_fieldRef (hf := F.fld25_2.h) (h := ?_) | refine p_fieldRow (hf := F.fld25_2.h) (h := ?_))
    (first | refine p_load (ht := F.leaf23.h) (h := ?_) | refine p_loadRef (ht := F.leaf23.h) (h := ?_))
    refine p_len (ht := Try.underlying23) (h := ?_)
    refine p_move (h := ?_)
    refine p_end ?_
    refine TrC.block ?_
    refine p_fresh fun hf => ?_
    refine p_renSlot (s := 1) (xs := (l0 ++ [x.name]).map V.str) 900 (ho2 := by rw [List.map_append]; exact oB_) (h := ?_)
    refine p_loopK [16, 17] [(g0 + 1, 2)] (fun st => ∃ (i c : Nat), (i ≤ x.kids.length) ∧ (c = a ∨ g0 < c) ∧ (c ≤ st.gen) ∧ (g0 + 1 ≤ st.gen) ∧ (LowQ g0 [(a, 900)] ob0 st.obj) ∧ st.env 1 = .row c 900 (l0 ++ naT x ++ naGL (x.kids.take i)).length ∧ st.env 18 = inV i ∧ st.obj c 900 = .row 9 ((l0 ++ naT x ++ naGL (x.kids.take i)).map V.str)) (fun st => x.kids.length - (st.env 18).toN) ?_ fun e ob g1 hK hO hI => ?_
    · exact ⟨0, _, by omega, .inr (by (try dsimp only); omega), Nat.le_refl _, by (try dsimp only); omega, (by (try dsimp only); repeat (first | exact hlow | exact LowQ.refl | refine LowQ.or_ ?_ (by assumption) | refine LowQ.up ?_ (by omega) | refine LowQ.at_ ?_ (by simp))), by simp only [List.take_zero, naGL, List.append_nil, hT, List.length_append, List.length_cons, List.length_nil, Nat.zero_add]; exact eV_, eV_, by simp only [List.take_zero, naGL, List.append_nil, hT]; exact oB_⟩
    · obtain ⟨i, c, hi, hc1, hcg1, hgen1, hlow, e1, e18, hrw⟩ := hI
      dsimp only at e1 e18 hrw
      simp only [valsE, List.cons.injEq, and_true] at hK
      simp only [valsO, List.cons.injEq, and_true] at hO
      have hE := (⟨hK, hO, e1, e18, hrw⟩ : _ ∧ _ ∧ _ ∧ _ ∧ _)
      dsimp only at hcg1 hgen1 hlow
      refine p_go ?_
      refine p_splitC (s := 19) (ht := fun hc19 => ?_) (hf := fun hc19 => ?_)
      · have hlt : i < x.kids.length := by simpa using hc19
        have hszt := szL_take hlt
        have hxs := x.sz_eq
        have hZl := naGL_len (x.kids.take i)
        have hTl : (naT x).length ≤ 1 := by rw [hT]; simp
        have hZ : (l0 ++ naT x ++ naGL (x.kids.take i)).length = l0.length + (naT x).length + (naGL (x.kids.take i)).length := by simp only [List.length_append]
        have hkl : x.kids[i].sz ≤ 1000000 := by omega
        refine p_go fun hf => ?_
        refine p_idxMap (j := i) (ht := Try.underlying23) (hi := F.ti25.h) (hij := rfl) (hj := hlt) (h := ?_)
        rw [rxV_cells]
        refine p_go fun hf => ?_
        refine p_callX ([(g0 + 1, 2)]) (hf := hrec x.kids[i] (List.getElem_mem hlt) c _ (by rw [hZ]; omega)) (hg := by simp; omega) (hos := by simp <;> omega) (h := fun r o5 h5 hg5 hlw5 hos5 hR5 => ?_)
        obtain ⟨c5, hc5, hcg5, rfl, hrw5⟩ := hR5
        have hlow : LowQ g0 [(a, 900)] ob0 o5 := LowQ.trans (by (try dsimp only); repeat (first | exact hlow | exact LowQ.refl | refine LowQ.or_ ?_ (by assumption) | refine LowQ.up ?_ (by omega) | refine LowQ.at_ ?_ (by simp))) hlw5 (by first | (dsimp only; omega) | omega) (fun k hk => by simp only [List.mem_cons, List.not_mem_nil, or_false] at hk; rcases hk with rfl <;> exact (show c = a ∨ g0 < c from hc1).imp (by rintro rfl; simp) id)
        simp only [valsO, List.cons.injEq, and_true] at hos5
        have hE := (⟨hK, e18, hos5, hrw5⟩ : _ ∧ _ ∧ _ ∧ _)
        refine p_go fun hf => ?_
        refine p_add (r := ((i + 1 : Nat) : Int)) (hr := (by first | omega | (simp only [decide_eq_true_eq, decide_eq_false_iff_not, Bool.or_eq_false_iff, Bool.and_eq_true, Bool.not_eq_true', Bool.not_eq_false'] at *; omega))) (hb := (by first | omega | (simp only [decide_eq_true_eq, decide_eq_false_iff_not, Bool.or_eq_false_iff, Bool.and_eq_true, Bool.not_eq_true', Bool.not_eq_false'] at *; omega))) (h := ?_)
        refine p_go ?_
        refine p_some ?_
        have hn1 : l0 ++ naT x ++ naGL (x.kids.take (i + 1)) = l0 ++ naT x ++ naGL (x.kids.take i) ++ naG x.kids[i] := by rw [take_step hlt, naGL_snoc, ← List.append_assoc]
        refine ⟨⟨(by simp (decide := true) only [valsE, evE, upd, cv, args0, argsFrom, List.length_map, ↓reduceIte, hE] <;> rfl), (by simp (decide := true) only [valsO, updO, upd, true_and, and_true, false_and, and_false, ↓reduceIte, hE] <;> rfl)⟩, ⟨i + 1, c5, hlt, by omega, by (try dsimp only); omega, by (try dsimp only); omega, (by (try dsimp only); repeat (first | exact hlow | exact LowQ.refl | refine LowQ.or_ ?_ (by assumption) | refine LowQ.up ?_ (by omega) | refine LowQ.at_ ?_ (by simp))), by rw [hn1]; exact eV_, eV_, by rw [hn1]; exact oB_⟩, ?_⟩
        simp (decide := true) only [upd, e18, V.toN, ↓reduceIte]; omega
      · have hge : ¬ i < x.kids.length := by simpa using hc19
        have htk : x.kids.take i = x.kids := List.take_of_length_le (by omega)
        rw [htk, List.append_assoc, ← naG_eq] at e1 hrw
        have hE := (⟨hK, hO, e1, e18, hrw⟩ : _ ∧ _ ∧ _ ∧ _ ∧ _)
        refine p_go ?_
        refine p_retE1 (v := .row c 900 (l0 ++ naG x).length) rfl eV_ (hK0 _ _ _ (by first | (dsimp only; omega) | omega) (by (try dsimp only); repeat (first | exact hlow | exact LowQ.refl | refine LowQ.or_ ?_ (by assumption) | refine LowQ.up ?_ (by omega) | refine LowQ.at_ ?_ (by simp))) (⟨c, hc1, by (try dsimp only); omega, rfl, oB_⟩))
  · have h1 : ¬ x.op = 1 := by simpa using hc9
    have hT : naT x = [] := by rw [naT, if_neg h1]
    refine p_go ?_
    refine p_loopK [16, 17] [(g0 + 1, 2)] (fun st => ∃ (i c : Nat), (i ≤ x.kids.length) ∧ (c = a ∨ g0 < c) ∧ (c ≤ st.gen) ∧ (g0 + 1 ≤ st.gen) ∧ (LowQ g0 [(a, 900)] ob0 st.obj) ∧ st.env 1 = .row c 900 (l0 ++ naT x ++ naGL (x.kids.take i)).length ∧ st.env 18 = inV i ∧ st.obj c 900 = .row 9 ((l0 ++ naT x ++ naGL (x.kids.take i)).map V.str)) (fun st => x.kids.length - (st.env 18).toN) ?_ fun e ob g1 hK hO hI => ?_
    · exact ⟨0, _, by omega, .inl rfl, by (try dsimp only); omega, by (try dsimp only); omega, (by (try dsimp only); repeat (first | exact hlow | exact LowQ.refl | refine LowQ.or_ ?_ (by assumption) | refine LowQ.up ?_ (by omega) | refine LowQ.at_ ?_ (by simp))), by simp only [List.take_zero, naGL, List.append_nil, hT, List.length_append, List.length_cons, List.length_nil, Nat.zero_add]; exact eV_, eV_, by simp only [List.take_zero, naGL, List.append_nil, hT]; exact oB_⟩
    · obtain ⟨i, c, hi, hc1, hcg1, hgen1, hlow, e1, e18, hrw⟩ := hI
      dsimp only at e1 e18 hrw
      simp only [valsE, List.cons.injEq, and_true] at hK
      simp only [valsO, List.cons.injEq, and_true] at hO
      have hE := (⟨hK, hO, e1, e18, hrw⟩ : _ ∧ _ ∧ _ ∧ _ ∧ _)
      dsimp only at hcg1 hgen1 hlow
      refine p_go ?_
      refine p_splitC (s := 19) (ht := fun hc19 => ?_) (hf := fun hc19 => ?_)
      · have hlt : i < x.kids.length := by simpa using hc19
        have hszt := szL_take hlt
        have hxs := x.sz_eq
        have hZl := naGL_len (x.kids.take i)
        have hTl : (naT x).length ≤ 1 := by rw [hT]; simp
        have hZ : (l0 ++ naT x ++ naGL (x.kids.take i)).length = l0.length + (naT x).length + (naGL (x.kids.take i)).length := by simp only [List.length_append]
        have hkl : x.kids[i].sz ≤ 1000000 := by omega
        refine p_go fun hf => ?_
        refine p_idxMap (j := i) (ht := Try.underlying23) (hi := F.ti25.h) (hij := rfl) (hj := hlt) (h := ?_)
        rw [rxV_cells]
        refine p_go fun hf => ?_
        refine p_callX ([(g0 + 1, 2)]) (hf := hrec x.kids[i] (List.getElem_mem hlt) c _ (by rw [hZ]; omega)) (hg := by simp; omega) (hos := by simp <;> omega) (h := fun r o5 h5 hg5 hlw5 hos5 hR5 => ?_)
        obtain ⟨c5, hc5, hcg5, rfl, hrw5⟩ := hR5
        have hlow : LowQ g0 [(a, 900)] ob0 o5 := LowQ.trans (by (try dsimp only); repeat (first | exact hlow | exact LowQ.refl | refine LowQ.or_ ?_ (by assumption) | refine LowQ.up ?_ (by omega) | refine LowQ.at_ ?_ (by simp))) hlw5 (by first | (dsimp only; omega) | omega) (fun k hk => by simp only [List.mem_cons, List.not_mem_nil, or_false] at hk; rcases hk with rfl <;> exact (show c = a ∨ g0 < c from hc1).imp (by rintro rfl; simp) id)
        simp only [valsO, List.cons.injEq, and_true] at hos5
        have hE := (⟨hK, e18, hos5, hrw5⟩ : _ ∧ _ ∧ _ ∧ _)
        refine p_go fun hf => ?_
        refine p_add (r := ((i + 1 : Nat) : Int)) (hr := (by first | omega | (simp only [decide_eq_true_eq, decide_eq_false_iff_not, Bool.or_eq_false_iff, Bool.and_eq_true, Bool.not_eq_true', Bool.not_eq_false'] at *; omega))) (hb := (by first | omega | (simp only [decide_eq_true_eq, decide_eq_false_iff_not, Bool.or_eq_false_iff, Bool.and_eq_true, Bool.not_eq_true', Bool.not_eq_false'] at *; omega))) (h := ?_)
        refine p_go ?_
        refine p_some ?_
        have hn1 : l0 ++ naT x ++ naGL (x.kids.take (i + 1)) = l0 ++ naT x ++ naGL (x.kids.take i) ++ naG x.kids[i] := by rw [take_step hlt, naGL_snoc, ← List.append_assoc]
        refine ⟨⟨(by simp (decide := true) only [valsE, evE, upd, cv, args0, argsFrom, List.length_map, ↓reduceIte, hE] <;> rfl), (by simp (decide := true) only [valsO, updO, upd, true_and, and_true, false_and, and_false, ↓reduceIte, hE] <;> rfl)⟩, ⟨i + 1, c5, hlt, by omega, by (try dsimp only); omega, by (try dsimp only); omega, (by (try dsimp only); repeat (first | exact hlow | exact LowQ.refl | refine LowQ.or_ ?_ (by assumption) | refine LowQ.up ?_ (by omega) | refine LowQ.at_ ?_ (by simp))), by rw [hn1]; exact eV_, eV_, by rw [hn1]; exact oB_⟩, ?_⟩
        simp (decide := true) only [upd, e18, V.toN, ↓reduceIte]; omega
      · have hge : ¬ i < x.kids.length := by simpa using hc19
        have htk : x.kids.take i = x.kids := List.take_of_length_le (by omega)
        rw [htk, List.append_assoc, ← naG_eq] at e1 hrw
        have hE := (⟨hK, hO, e1, e18, hrw⟩ : _ ∧ _ ∧ _ ∧ _ ∧ _)
        refine p_go ?_
        refine p_retE1 (v := .row c 900 (l0 ++ naG x).length) rfl eV_ (hK0 _ _ _ (by first | (dsimp only; omega) | omega) (by (try dsimp only); repeat (first | exact hlow | exact LowQ.refl | refine LowQ.or_ ?_ (by assumption) | refine LowQ.up ?_ (by omega) | refine LowQ.at_ ?_ (by simp))) (⟨c, hc1, by (try dsimp only); omega, rfl, oB_⟩))

theorem gatherR (x : Rx) (hx : x.Sm) : ∀ (a : Nat) (l0 : List ByteArray), l0.length + x.sz ≤ 1000000 → FnX Try.prog 44 [rxA x, .row a 900 l0.length] [(a, 900)] [.row 9 (l0.map V.str)] (fun g v o g' => ∃ a', (a' = a ∨ g < a') ∧ a' ≤ g' ∧ v = .row a' 900 (l0 ++ naG x).length ∧ o a' 900 = .row 9 ((l0 ++ naG x).map V.str)) := by
  induction x using Rx.ind with
  | _ x ih => exact fun a l0 h => gather_row x hx.len (fun k hk => ih k hk (hx.kids k hk)) a l0 h

theorem gather_nil (x : Rx) (hs : x.kids.length ≤ 17592186044416) (hrec : ∀ k ∈ x.kids, ∀ (a : Nat) (l0 : List ByteArray), l0.length + k.sz ≤ 1000000 → FnX Try.prog 44 [rxA k, .row a 900 l0.length] [(a, 900)] [.row 9 (l0.map V.str)] (fun g v o g' => ∃ a', (a' = a ∨ g < a') ∧ a' ≤ g' ∧ v = .row a' 900 (l0 ++ naG k).length ∧ o a' 900 = .row 9 ((l0 ++ naG k).map V.str))) (hsz : x.sz ≤ 1000000) : FnX Try.prog 44 [rxA x, .nil] [] [] (fun g v o g' => ∃ a', (g < a') ∧ a' ≤ g' ∧ v = .row a' 900 (naG x).length ∧ o a' 900 = .row 9 ((naG x).map V.str)) := by
  refine FnX.of (fn := Try.f44) ⟨Try.func44, by kernel_rfl, rfl⟩ Try.ntmps44 (by simp) fun w0 S0 l ob0 g0 K hrow hgl hK0 => ?_
  simp only [valsO, List.cons.injEq, and_true] at hrow
  simp only [List.mem_cons, List.not_mem_nil, or_false, forall_eq_or_imp, forall_eq, forall_const] at hgl
  have hE := hrow
  refine p_seq (p_region fun hf => ?_)
  refine p_box (h := ?_)
  refine p_assign (h := ?_)
  refine p_end ?_
  refine p_fresh fun hf => ?_
  refine p_nilSlot (s := 1) (el := 9) 900 (h := ?_)
  refine p_go ?_
  refine p_splitC (s := 9) (ht := fun hc9 => ?_) (hf := fun hc9 => ?_)
  · have h1 : x.op = 1 := by simpa using hc9
    have hT : naT x = [x.name] := by rw [naT, if_pos h1]
    refine p_go fun hf => ?_
    refine p_buildSlice (ht := Try.underlying34) (hi := F.ti9.h) (h := ?_)
    refine p_append (ht := Try.underlying34) (hi := F.ti9.h) (u := .row _ 13 1) (ys := [.str x.name]) (hnl := by simp) (hy := ⟨.inl oB_, rfl⟩) (k := 0 + 1) (hm := by simp) (hlim := by have := x.sz_pos; simp <;> omega) (h := ?_)
    refine p_assign (h := ?_)
    refine p_end ?_
    refine p_seq ?_
    refine p_seq (p_region fun hf => ?_)
    (first | refine p_fieldPtr (hf := F.fld25_2.h) (h := ?_) | refine p_fieldRef (hf := F.fld25_2.h) (h := ?_) | refine p_fieldRow (hf := F.fld25_2.h) (h := ?_))
    (first | refine p_load (ht := F.leaf23.h) (h := ?_) | refine p_loadRef (ht := F.leaf23.h) (h := ?_))
    refine p_len (ht := Try.underlying23) (h := ?_)
    refine p_move (h := ?_)
    refine p_end ?_
    refine TrC.block ?_
    refine p_fresh fun hf => ?_
    refine p_renSlot (s := 1) (xs := ([x.name]).map V.str) 900 (ho2 := oB_) (h := ?_)
    refine p_loopK [16, 17] [(g0 + 1, 2)] (fun st => ∃ (i c : Nat), (i ≤ x.kids.length) ∧ (g0 < c) ∧ (c ≤ st.gen) ∧ (g0 + 1 ≤ st.gen) ∧ (LowQ g0 [] ob0 st.obj) ∧ st.env 1 = .row c 900 (naT x ++ naGL (x.kids.take i)).length ∧ st.env 18 = inV i ∧ st.obj c 900 = .row 9 ((naT x ++ naGL (x.kids.take i)).map V.str)) (fun st => x.kids.length - (st.env 18).toN) ?_ fun e ob g1 hK hO hI => ?_
    · exact ⟨0, _, by omega,  (by (try dsimp only); omega), Nat.le_refl _, by (try dsimp only); omega, (by (try dsimp only); repeat (first | exact hlow | exact LowQ.refl | refine LowQ.or_ ?_ (by assumption) | refine LowQ.up ?_ (by omega) | refine LowQ.at_ ?_ (by simp))), by simp only [List.take_zero, naGL, List.append_nil, hT, List.length_append, List.length_cons, List.length_nil, Nat.zero_add]; exact eV_, eV_, by simp only [List.take_zero, naGL, List.append_nil, hT]; exact oB_⟩
    · obtain ⟨i, c, hi, hc1, hcg1, hgen1, hlow, e1, e18, hrw⟩ := hI
      dsimp only at e1 e18 hrw
      simp only [valsE, List.cons.injEq, and_true] at hK
      simp only [valsO, List.cons.injEq, and_true] at hO
      have hE := (⟨hK, hO, e1, e18, hrw⟩ : _ ∧ _ ∧ _ ∧ _ ∧ _)
      dsimp only at hcg1 hgen1 hlow
      refine p_go ?_
      refine p_splitC (s := 19) (ht := fun hc19 => ?_) (hf := fun hc19 => ?_)
      · have hlt : i < x.kids.length := by simpa using hc19
        have hszt := szL_take hlt
        have hxs := x.sz_eq
        have hZl := naGL_len (x.kids.take i)
        have hTl : (naT x).length ≤ 1 := by rw [hT]; simp
        have hZ : (naT x ++ naGL (x.kids.take i)).length = 0 + (naT x).length + (naGL (x.kids.take i)).length := by simp only [List.length_append] <;> omega
        have hkl : x.kids[i].sz ≤ 1000000 := by omega
        refine p_go fun hf => ?_
        refine p_idxMap (j := i) (ht := Try.underlying23) (hi := F.ti25.h) (hij := rfl) (hj := hlt) (h := ?_)
        rw [rxV_cells]
        refine p_go fun hf => ?_
        refine p_callX ([(g0 + 1, 2)]) (hf := hrec x.kids[i] (List.getElem_mem hlt) c _ (by rw [hZ]; omega)) (hg := by simp; omega) (hos := by simp <;> omega) (h := fun r o5 h5 hg5 hlw5 hos5 hR5 => ?_)
        obtain ⟨c5, hc5, hcg5, rfl, hrw5⟩ := hR5
        have hlow : LowQ g0 [] ob0 o5 := LowQ.trans (by (try dsimp only); repeat (first | exact hlow | exact LowQ.refl | refine LowQ.or_ ?_ (by assumption) | refine LowQ.up ?_ (by omega) | refine LowQ.at_ ?_ (by simp))) hlw5 (by first | (dsimp only; omega) | omega) (fun k hk => by simp only [List.mem_cons, List.not_mem_nil, or_false] at hk; rcases hk with rfl <;> exact .inr hc1)
        simp only [valsO, List.cons.injEq, and_true] at hos5
        have hE := (⟨hK, e18, hos5, hrw5⟩ : _ ∧ _ ∧ _ ∧ _)
        refine p_go fun hf => ?_
        refine p_add (r := ((i + 1 : Nat) : Int)) (hr := (by first | omega | (simp only [decide_eq_true_eq, decide_eq_false_iff_not, Bool.or_eq_false_iff, Bool.and_eq_true, Bool.not_eq_true', Bool.not_eq_false'] at *; omega))) (hb := (by first | omega | (simp only [decide_eq_true_eq, decide_eq_false_iff_not, Bool.or_eq_false_iff, Bool.and_eq_true, Bool.not_eq_true', Bool.not_eq_false'] at *; omega))) (h := ?_)
        refine p_go ?_
        refine p_some ?_
        have hn1 : naT x ++ naGL (x.kids.take (i + 1)) = naT x ++ naGL (x.kids.take i) ++ naG x.kids[i] := by rw [take_step hlt, naGL_snoc, ← List.append_assoc]
        refine ⟨⟨(by simp (decide := true) only [valsE, evE, upd, cv, args0, argsFrom, List.length_map, ↓reduceIte, hE] <;> rfl), (by simp (decide := true) only [valsO, updO, upd, true_and, and_true, false_and, and_false, ↓reduceIte, hE] <;> rfl)⟩, ⟨i + 1, c5, hlt, by omega, by (try dsimp only); omega, by (try dsimp only); omega, (by (try dsimp only); repeat (first | exact hlow | exact LowQ.refl | refine LowQ.or_ ?_ (by assumption) | refine LowQ.up ?_ (by omega) | refine LowQ.at_ ?_ (by simp))), by rw [hn1]; exact eV_, eV_, by rw [hn1]; exact oB_⟩, ?_⟩
        simp (decide := true) only [upd, e18, V.toN, ↓reduceIte]; omega
      · have hge : ¬ i < x.kids.length := by simpa using hc19
        have htk : x.kids.take i = x.kids := List.take_of_length_le (by omega)
        rw [htk, ← naG_eq] at e1 hrw
        have hE := (⟨hK, hO, e1, e18, hrw⟩ : _ ∧ _ ∧ _ ∧ _ ∧ _)
        refine p_go ?_
        refine p_retE1 (v := .row c 900 (naG x).length) rfl eV_ (hK0 _ _ _ (by first | (dsimp only; omega) | omega) (by (try dsimp only); repeat (first | exact hlow | exact LowQ.refl | refine LowQ.or_ ?_ (by assumption) | refine LowQ.up ?_ (by omega) | refine LowQ.at_ ?_ (by simp))) (⟨c, hc1, by (try dsimp only); omega, rfl, oB_⟩))
  · have h1 : ¬ x.op = 1 := by simpa using hc9
    have hT : naT x = [] := by rw [naT, if_neg h1]
    refine p_go ?_
    refine p_loopK [16, 17] [(g0 + 1, 2)] (fun st => ∃ (i c : Nat), (i ≤ x.kids.length) ∧ (g0 < c) ∧ (c ≤ st.gen) ∧ (g0 + 1 ≤ st.gen) ∧ (LowQ g0 [] ob0 st.obj) ∧ st.env 1 = .row c 900 (naT x ++ naGL (x.kids.take i)).length ∧ st.env 18 = inV i ∧ st.obj c 900 = .row 9 ((naT x ++ naGL (x.kids.take i)).map V.str)) (fun st => x.kids.length - (st.env 18).toN) ?_ fun e ob g1 hK hO hI => ?_
    · exact ⟨0, g0 + 1 + 1, by omega, (by (try dsimp only); omega), by (try dsimp only); omega, by (try dsimp only); omega, (by (try dsimp only); repeat (first | exact hlow | exact LowQ.refl | refine LowQ.or_ ?_ (by assumption) | refine LowQ.up ?_ (by omega) | refine LowQ.at_ ?_ (by simp))), by simp only [List.take_zero, naGL, List.append_nil, hT, List.length_append, List.length_cons, List.length_nil, Nat.zero_add]; exact eV_, eV_, by simp only [List.take_zero, naGL, List.append_nil, hT]; exact oB_⟩
    · obtain ⟨i, c, hi, hc1, hcg1, hgen1, hlow, e1, e18, hrw⟩ := hI
      dsimp only at e1 e18 hrw
      simp only [valsE, List.cons.injEq, and_true] at hK
      simp only [valsO, List.cons.injEq, and_true] at hO
      have hE := (⟨hK, hO, e1, e18, hrw⟩ : _ ∧ _ ∧ _ ∧ _ ∧ _)
      dsimp only at hcg1 hgen1 hlow
      refine p_go ?_
      refine p_splitC (s := 19) (ht := fun hc19 => ?_) (hf := fun hc19 => ?_)
      · have hlt : i < x.kids.length := by simpa using hc19
        have hszt := szL_take hlt
        have hxs := x.sz_eq
        have hZl := naGL_len (x.kids.take i)
        have hTl : (naT x).length ≤ 1 := by rw [hT]; simp
        have hZ : (naT x ++ naGL (x.kids.take i)).length = 0 + (naT x).length + (naGL (x.kids.take i)).length := by simp only [List.length_append] <;> omega
        have hkl : x.kids[i].sz ≤ 1000000 := by omega
        refine p_go fun hf => ?_
        refine p_idxMap (j := i) (ht := Try.underlying23) (hi := F.ti25.h) (hij := rfl) (hj := hlt) (h := ?_)
        rw [rxV_cells]
        refine p_go fun hf => ?_
        refine p_callX ([(g0 + 1, 2)]) (hf := hrec x.kids[i] (List.getElem_mem hlt) c _ (by rw [hZ]; omega)) (hg := by simp; omega) (hos := by simp <;> omega) (h := fun r o5 h5 hg5 hlw5 hos5 hR5 => ?_)
        obtain ⟨c5, hc5, hcg5, rfl, hrw5⟩ := hR5
        have hlow : LowQ g0 [] ob0 o5 := LowQ.trans (by (try dsimp only); repeat (first | exact hlow | exact LowQ.refl | refine LowQ.or_ ?_ (by assumption) | refine LowQ.up ?_ (by omega) | refine LowQ.at_ ?_ (by simp))) hlw5 (by first | (dsimp only; omega) | omega) (fun k hk => by simp only [List.mem_cons, List.not_mem_nil, or_false] at hk; rcases hk with rfl <;> exact .inr hc1)
        simp only [valsO, List.cons.injEq, and_true] at hos5
        have hE := (⟨hK, e18, hos5, hrw5⟩ : _ ∧ _ ∧ _ ∧ _)
        refine p_go fun hf => ?_
        refine p_add (r := ((i + 1 : Nat) : Int)) (hr := (by first | omega | (simp only [decide_eq_true_eq, decide_eq_false_iff_not, Bool.or_eq_false_iff, Bool.and_eq_true, Bool.not_eq_true', Bool.not_eq_false'] at *; omega))) (hb := (by first | omega | (simp only [decide_eq_true_eq, decide_eq_false_iff_not, Bool.or_eq_false_iff, Bool.and_eq_true, Bool.not_eq_true', Bool.not_eq_false'] at *; omega))) (h := ?_)
        refine p_go ?_
        refine p_some ?_
        have hn1 : naT x ++ naGL (x.kids.take (i + 1)) = naT x ++ naGL (x.kids.take i) ++ naG x.kids[i] := by rw [take_step hlt, naGL_snoc, ← List.append_assoc]
        refine ⟨⟨(by simp (decide := true) only [valsE, evE, upd, cv, args0, argsFrom, List.length_map, ↓reduceIte, hE] <;> rfl), (by simp (decide := true) only [valsO, updO, upd, true_and, and_true, false_and, and_false, ↓reduceIte, hE] <;> rfl)⟩, ⟨i + 1, c5, hlt, by omega, by (try dsimp only); omega, by (try dsimp only); omega, (by (try dsimp only); repeat (first | exact hlow | exact LowQ.refl | refine LowQ.or_ ?_ (by assumption) | refine LowQ.up ?_ (by omega) | refine LowQ.at_ ?_ (by simp))), by rw [hn1]; exact eV_, eV_, by rw [hn1]; exact oB_⟩, ?_⟩
        simp (decide := true) only [upd, e18, V.toN, ↓reduceIte]; omega
      · have hge : ¬ i < x.kids.length := by simpa using hc19
        have htk : x.kids.take i = x.kids := List.take_of_length_le (by omega)
        rw [htk, ← naG_eq] at e1 hrw
        have hE := (⟨hK, hO, e1, e18, hrw⟩ : _ ∧ _ ∧ _ ∧ _ ∧ _)
        refine p_go ?_
        refine p_retE1 (v := .row c 900 (naG x).length) rfl eV_ (hK0 _ _ _ (by first | (dsimp only; omega) | omega) (by (try dsimp only); repeat (first | exact hlow | exact LowQ.refl | refine LowQ.or_ ?_ (by assumption) | refine LowQ.up ?_ (by omega) | refine LowQ.at_ ?_ (by simp))) (⟨c, hc1, by (try dsimp only); omega, rfl, oB_⟩))

end Go.Proofs.Ytjdhkopjigijfaa
/-
  The names of an expression: Names of the program and of the reference.
-/
set_option linter.unusedSimpArgs false
set_option linter.unusedVariables false
set_option maxHeartbeats 4000000
namespace Go.Proofs.Ytjdhkopjigijfaa
open Go.RowKit
attribute [local irreducible] Wk Tr

theorem namesP (x : Rx) (hs : x.Sm) : FnC Try.prog 21 [rxA x] (fun r => r = .tup [.sl 9 (nmL x), iV (errE x)]) := by
  refine FnC.of (fn := Try.f21) ⟨Try.func21, by kernel_rfl, rfl⟩ Try.ntmps21 (by simp) fun w0 S0 => ?_
  refine p_go fun hf => ?_
  refine p_call (hx := rfl) (hb := ⟨Try.func23, by kernel_rfl, rfl⟩) (hf := checkP x hs) (h := ?_)
  refine p_go ?_
  refine p_splitC (s := 9) (ht := fun hc9 => ?_) (hf := fun hc9 => ?_)
  · have he : errE x ≠ 0 := by simpa using hc9
    have hnm : nmL x = [] := by rw [nmL, nmZ, if_neg he]; rfl
    refine p_condT (h := ?_)
    refine p_seq (p_region fun hf => ?_)
    refine p_move (h := ?_)
    refine p_assign (h := ?_)
    refine p_assign (h := ?_)
    refine p_end ?_
    refine TrC.ret ?_
    refine p_nilSl (s := 2) (t := 9) (h := ?_)
    refine p_r2 (hp := by rw [hnm])
  · have he : errE x = 0 := by simpa using hc9
    have hxok := errE_ok.1 he
    have hxsz := hxok.sz
    obtain ⟨zs, hzs⟩ : ∃ zs, zs = (naG x).map bsL := ⟨_, rfl⟩
    have hzl : zs.length = (naG x).length := by rw [hzs, List.length_map]
    have hnl := naG_len x
    have hnm : nmL x = (tidS zs).map zV := by rw [nmL, nmZ, if_pos he, hzs]
    refine p_go fun hf => ?_
    refine p_callX ([]) (hf := gather_nil x hs.len (fun k hk => gatherR k (hs.kids k hk)) (by omega)) (hg := by simp <;> omega) (hos := by simp) (h := fun r o6 h6 hg6 hlw6 hos6 hR6 => ?_)
    obtain ⟨a6, ha6, hag6, rfl, hrw6⟩ := hR6
    rw [strs_eq, ← hzs] at hrw6
    have hE := hrw6
    refine p_go fun hf => ?_
    refine p_callLib (fV := zV) (enc := encStr) zs (srtS zs) (.tup []) (hy := by rw [hzl]; exact eV_) (ho := hrw6) (hb := ⟨Try.func45, by kernel_rfl, rfl⟩) (he := TI.cells F.ti9.h) (hf := RX_str _) (hl := srtS_len zs) (hc := fun b cap w h1 h2 h3 => (Try.slices_Sort_string b 0 cap zs w h1 h2 (by omega)).mono fun e w' h4 => ⟨⟨.tuple #[], h4.1, fun S at_ _ => by rw [VR]; exact ⟨_, rfl, by simp [VRs]⟩⟩, h4.2⟩) (hnil := fun _ w => (Try.slices_Sort_string_none none 0 w).mono fun e w' h4 => ⟨⟨.tuple #[], h4.1, fun S at_ _ => by rw [VR]; exact ⟨_, rfl, by simp [VRs]⟩⟩, 0, #[], by rw [h4.2]; simp⟩) (h := ?_)
    refine p_go fun hf => ?_
    refine p_callLib (fV := zV) (enc := encStr) (srtS zs) (tidS zs ++ List.replicate (zs.length - (tidS zs).length) []) (.row a6 900 (tidS zs).length) (hy := by rw [srtS_len, hzl]; exact eV_) (hb := ⟨Try.func46, by kernel_rfl, rfl⟩) (he := TI.cells F.ti9.h) (hf := RX_str _) (hl := tidS_fill zs) (hc := fun b cap w h1 h2 h3 => (by have h9 := Try.slices_Compact_string b 0 cap (srtS zs) w h1 (by rw [srtS_len]; omega) h3; rw [srtS_len] at h9 ⊢; exact h9.mono fun e w' h4 => ⟨⟨_, h4.1, fun S at_ hat => by rw [VR]; exact ⟨_, _, _, hat, tidS_len zs, rfl⟩⟩, by obtain ⟨n, h5⟩ := h4.2; exact ⟨n, #[], by rw [h5]; simp [tidS]⟩⟩)) (hnil := fun hz w => (Try.slices_Compact_string_empty none 0 w).mono fun e w' h4 => ⟨⟨_, h4.1, fun S at_ hat => by rw [VR]; exact ⟨_, _, _, hat, by have := tidS_len zs; have h8 := congrArg List.length hz; rw [srtS_len] at h8; simp at h8; simp [h8, tidS, srtS, Lib.compact, Lib.compactUpTo], by have h8 := congrArg List.length hz; rw [srtS_len] at h8; simp at h8; simp [h8, tidS, srtS, Lib.compact, Lib.compactUpTo]⟩⟩, 0, #[], by rw [h4.2]; simp⟩) (h := ?_)
    refine p_assign (h := ?_)
    refine p_assign (h := ?_)
    refine p_end ?_
    refine TrC.ret ?_
    refine p_frzST (s := 2) eV_ oB_ (by simp) ?_
    rw [take_tidS]
    refine p_r2 (hp := by rw [hnm, he])

theorem names_gen (x : Rx) (hs : x.kids.length ≤ 17592186044416) (hsz : x.sz ≤ 1000000) (hrec : ∀ k ∈ x.kids, FnC Try.prog 47 [rxA k] (fun r => r = .sl 9 ((naR k).map V.str))) : FnC Try.prog 47 [rxA x] (fun r => r = .sl 9 ((naR x).map V.str)) := by
  refine FnC.of (fn := Try.f47) ⟨Try.func47, by kernel_rfl, rfl⟩ Try.ntmps47 (by simp) fun w0 S0 => ?_
  refine p_go ?_
  refine p_splitC (s := 7) (ht := fun hc7 => ?_) (hf := fun hc7 => ?_)
  · have h1 : x.op = 1 := by simpa using hc7
    refine p_go fun hf => ?_
    refine p_buildSlice (ht := Try.underlying34) (hi := F.ti9.h) (h := ?_)
    refine p_assign (h := ?_)
    refine p_end ?_
    refine TrC.ret ?_
    refine p_frzS (s := 2) (xs := [.str x.name]) eV_ oB_ rfl ?_
    refine p_ret1 (hp := by rw [naR_eq, if_pos h1]; rfl)
  · have h1 : ¬ x.op = 1 := by simpa using hc7
    refine p_go ?_
    refine p_fresh fun hf => ?_
    refine p_nilSlot (s := 3) (el := 9) 900 (h := ?_)
    refine p_loopK [1] [(0 + 1, 1)] (fun st => ∃ (i c : Nat), (i ≤ x.kids.length) ∧ (0 + 1 < c) ∧ (c ≤ st.gen) ∧ st.env 3 = .row c 900 (naRL (x.kids.take i)).length ∧ st.env 4 = inV i ∧ st.obj c 900 = .row 9 ((naRL (x.kids.take i)).map V.str)) (fun st => x.kids.length - (st.env 4).toN) ?_ fun e ob g1 hK hO hI => ?_
    · exact ⟨0, _, by omega, by (try dsimp only); omega, Nat.le_refl _, eV_, eV_, oB_⟩
    · obtain ⟨i, c, hi, hc1, hcg1, e3, e4, hrw⟩ := hI
      dsimp only at e3 e4 hrw
      simp only [valsE, List.cons.injEq, and_true] at hK
      simp only [valsO, List.cons.injEq, and_true] at hO
      have hE := (⟨hK, hO, e3, e4, hrw⟩ : _ ∧ _ ∧ _ ∧ _ ∧ _)
      dsimp only at hcg1
      refine p_go ?_
      refine p_splitC (s := 15) (ht := fun hc15 => ?_) (hf := fun hc15 => ?_)
      · have hlt : i < x.kids.length := by simpa using hc15
        have hszt := szL_take hlt
        have hxs := x.sz_eq
        have hZl := naRL_len (x.kids.take i)
        have hkl := naR_len x.kids[i]
        have hst : naRL (x.kids.take (i + 1)) = naRL (x.kids.take i) ++ naR x.kids[i] := by rw [take_step hlt, naRL_snoc]
        refine p_go fun hf => ?_
        refine p_idxMap (j := i) (ht := Try.underlying23) (hi := F.ti25.h) (hij := rfl) (hj := hlt) (h := ?_)
        rw [rxV_cells]
        refine p_go fun hf => ?_
        refine p_call (hx := rfl) (hb := ⟨Try.func47, by kernel_rfl, rfl⟩) (hf := hrec x.kids[i] (List.getElem_mem hlt)) (h := ?_)
        refine p_append (ht := Try.underlying34) (hi := F.ti9.h) (hu := eV_) (u := .sl 9 ((naR x.kids[i]).map V.str)) (ys := (naR x.kids[i]).map V.str) (hy := .inl ⟨rfl, rfl⟩) (hnl := by simp) (k := (naRL (x.kids.take i)).length + (naR x.kids[i]).length) (hm := by simp) (hlim := by omega) (h := ?_)
        refine p_assign (h := ?_)
        refine p_end ?_
        refine p_region fun hf => ?_
        refine p_move (h := ?_)
        refine p_bare ?_
        refine p_renSlot (s := 3) 900 (h := ?_)
        refine p_lastOp (h := ?_)
        refine p_add (r := ((i + 1 : Nat) : Int)) (hr := (by first | omega | (simp only [decide_eq_true_eq, decide_eq_false_iff_not, Bool.or_eq_false_iff, Bool.and_eq_true, Bool.not_eq_true', Bool.not_eq_false'] at *; omega))) (hb := (by first | omega | (simp only [decide_eq_true_eq, decide_eq_false_iff_not, Bool.or_eq_false_iff, Bool.and_eq_true, Bool.not_eq_true', Bool.not_eq_false'] at *; omega))) (h := ?_)
        refine p_go ?_
        refine p_some ?_
        refine ⟨⟨(by simp (decide := true) only [valsE, evE, upd, cv, args0, argsFrom, List.length_map, ↓reduceIte, hE] <;> rfl), (by simp (decide := true) only [valsO, updO, upd, true_and, and_true, false_and, and_false, ↓reduceIte, hE] <;> rfl)⟩, ⟨i + 1, _, hlt, by (try dsimp only); omega, Nat.le_refl _, by rw [hst, List.length_append]; exact eV_, eV_, by rw [hst, List.map_append]; exact oB_⟩, ?_⟩
        simp (decide := true) only [upd, e4, V.toN, ↓reduceIte]; omega
      · have hge : ¬ i < x.kids.length := by simpa using hc15
        have htk : x.kids.take i = x.kids := List.take_of_length_le (by omega)
        rw [htk] at e3 hrw
        have hE := (⟨hK, hO, e3, e4, hrw⟩ : _ ∧ _ ∧ _ ∧ _ ∧ _)
        refine p_condF (h := ?_)
        refine p_exit ?_
        refine p_seq (p_region fun hf => ?_)
        refine p_move (h := ?_)
        refine p_assign (h := ?_)
        refine p_end ?_
        refine TrC.ret ?_
        refine p_frzS (s := 2) eV_ oB_ (by simp) ?_
        refine p_ret1 (hp := by rw [naR_eq, if_neg h1])

theorem namesL (x : Rx) (hx : x.Sm) (hsz : x.sz ≤ 1000000) : FnC Try.prog 47 [rxA x] (fun r => r = .sl 9 ((naR x).map V.str)) := by
  induction x using Rx.ind with
  | _ x ih => exact names_gen x hx.len hsz fun k hk => ih k hk (hx.kids k hk) (by have := Rx.szL_mem hk; have := x.sz_eq; omega)

theorem namesR (x : Rx) (hs : x.Sm) : FnC Try.prog 22 [rxA x] (fun r => r = .tup [.sl 9 (nmL x), iV (errE x)]) := by
  refine FnC.of (fn := Try.f22) ⟨Try.func22, by kernel_rfl, rfl⟩ Try.ntmps22 (by simp) fun w0 S0 => ?_
  refine p_goJ fun hf => ?_
  refine p_call (hx := rfl) (hb := ⟨Try.func20, by kernel_rfl, rfl⟩) (hf := checkRE x hs) (h := ?_)
  refine p_goJ ?_
  refine p_seq ?_
  refine p_goJ ?_
  refine p_splitC (s := 12) (ht := fun hc12 => ?_) (hf := fun hc12 => ?_)
  · have he : errE x ≠ 0 := by simpa using hc12
    have hnm : nmL x = [] := by rw [nmL, nmZ, if_neg he]; rfl
    refine p_condT (h := ?_)
    refine p_seq (p_region fun hf => ?_)
    refine p_move (h := ?_)
    refine p_assign (h := ?_)
    refine p_assign (h := ?_)
    refine p_end ?_
    refine TrC.ret ?_
    refine p_nilSl (s := 2) (t := 9) (h := ?_)
    refine p_r2 (hp := by rw [hnm])
  · have he : errE x = 0 := by simpa using hc12
    have hxok := errE_ok.1 he
    have hxsz := hxok.sz
    obtain ⟨lL, hlL⟩ : ∃ lL, lL = naR x := ⟨_, rfl⟩
    have hll : lL.length ≤ 500 := by have := naR_len x; rw [hlL]; omega
    have hnm : nmL x = (tidS (lL.map bsL)).map zV := by rw [nmL, nmZ, if_pos he, na_same x hxok.right, hlL]
    refine p_goJ fun hf => ?_
    refine p_call (hx := rfl) (hb := ⟨Try.func47, by kernel_rfl, rfl⟩) (hf := (show FnC Try.prog 47 [rxA x] (fun r => r = .sl 9 (lL.map V.str)) from hlL ▸ namesL x hs (by omega))) (h := ?_)
    refine p_goJ ?_
    refine p_seq ?_
    refine p_goJ ?_
    refine p_nilSl (s := 5) (t := 9) (h := ?_)
    refine p_loopK [6] [] (fun st => ∃ (i : Nat) (out : List ByteArray), (i ≤ lL.length) ∧ (Srt out (lL.take i)) ∧ (out.length ≤ i) ∧ st.env 5 = .sl 9 (out.map V.str) ∧ st.env 7 = inV i) (fun st => lL.length - (st.env 7).toN) ?_ fun e ob g1 hK hO hI => ?_
    · exact ⟨0, [], by omega, Srt.nil, by simp, eV_, eV_⟩
    · obtain ⟨i, out, hi, hS, hol, e5, e7⟩ := hI
      dsimp only at e5 e7
      simp only [valsE, List.cons.injEq, and_true] at hK
      simp only [valsO, List.cons.injEq, and_true] at hO
      have hE := (⟨hK, hO, e5, e7⟩ : _ ∧ _ ∧ _ ∧ _)
      refine p_seq ?_
      refine p_goJ ?_
      refine p_splitC (s := 19) (ht := fun hc19 => ?_) (hf := fun hc19 => ?_)
      · have hlt : i < lL.length := by simpa using hc19
        refine p_goJ ?_
        refine p_seq ?_
        refine p_goJ ?_
        refine p_joinK [5, 6, 7] [] (fun st => ∃ k : Nat, (k ≤ out.length) ∧ (∀ j (hj : j < out.length), j < k → strLt out[j] lL[i] = true) ∧ (k = out.length ∨ ∃ hj : k < out.length, strLt out[k] lL[i] = false) ∧ st.env 8 = inV k) ?_ fun e ob gJ2 hK hO hI => ?_
        ·
          refine p_goJ ?_
          refine p_loopK [5, 6, 7] [] (fun st => ∃ k : Nat, (k ≤ out.length) ∧ (∀ j (hj : j < out.length), j < k → strLt out[j] lL[i] = true) ∧ st.env 8 = inV k) (fun st => out.length - (st.env 8).toN) ?_ fun e ob g2 hK hO hI => ?_
          · exact ⟨0, by omega, fun _ _ h => by omega, eV_⟩
          · obtain ⟨k, hk, hlow, e8⟩ := hI
            dsimp only at e8
            simp only [valsE, List.cons.injEq, and_true] at hK
            simp only [valsO, List.cons.injEq, and_true] at hO
            have hE := (⟨hK, hO, e8⟩ : _ ∧ _ ∧ _)
            refine p_seq ?_
            refine p_goJ fun hf => ?_
            refine p_split (s := 26) (ht := fun hb26 => ?_) (hf := fun hb26 => ?_)
            · have hlt2 : k < out.length := by simpa using hb26
              refine p_goJ fun hf => ?_
              refine p_idxMap (j := k) (ht := Try.underlying34) (hi := F.ti9.h) (hij := rfl) (hj := hlt2) (h := ?_)
              refine p_goJ fun hf => ?_
              refine p_idxMap (j := i) (ht := Try.underlying34) (hi := F.ti9.h) (hij := rfl) (hj := hlt) (h := ?_)
              refine p_goJ fun hf => ?_
              refine p_strOp (h := ?_)
              refine p_goJ ?_
              refine p_splitC (s := 36) (ht := fun hc36 => ?_) (hf := fun hc36 => ?_)
              · have hb36 : strLt out[k] lL[i] = true := by simpa using hc36
                refine p_goJ fun hf => ?_
                refine p_add (r := ((k + 1 : Nat) : Int)) (hr := (by first | omega | (simp only [decide_eq_true_eq, decide_eq_false_iff_not, Bool.or_eq_false_iff, Bool.and_eq_true, Bool.not_eq_true', Bool.not_eq_false'] at *; omega))) (hb := (by first | omega | (simp only [decide_eq_true_eq, decide_eq_false_iff_not, Bool.or_eq_false_iff, Bool.and_eq_true, Bool.not_eq_true', Bool.not_eq_false'] at *; omega))) (h := ?_)
                refine p_goJ ?_
                refine p_some ?_
                refine ⟨⟨(by simp (decide := true) only [valsE, evE, upd, cv, args0, argsFrom, List.length_map, ↓reduceIte, hE] <;> rfl), (by simp (decide := true) only [valsO, updO, upd, true_and, and_true, false_and, and_false, ↓reduceIte, hE] <;> rfl)⟩, ⟨k + 1, hlt2, fun j hj h => (Nat.lt_succ_iff_lt_or_eq.1 h).elim (hlow j hj) (fun h => by subst h; exact hb36), eV_⟩, ?_⟩
                simp (decide := true) only [upd, e8, V.toN, ↓reduceIte]; omega
              · have hb36 : strLt out[k] lL[i] = false := by simpa using hc36
                refine p_goJ ?_
                refine p_some ?_
                refine ⟨⟨(by simp (decide := true) only [valsE, evE, upd, cv, args0, argsFrom, List.length_map, ↓reduceIte, hE] <;> rfl), (by simp (decide := true) only [valsO, updO, upd, true_and, and_true, false_and, and_false, ↓reduceIte, hE] <;> rfl)⟩, k, hk, hlow, .inr ⟨hlt2, hb36⟩, eV_⟩
            · have hge2 : ¬ k < out.length := by simpa using hb26
              refine p_goJ ?_
              refine p_some ?_
              refine ⟨⟨(by simp (decide := true) only [valsE, evE, upd, cv, args0, argsFrom, List.length_map, ↓reduceIte, hE] <;> rfl), (by simp (decide := true) only [valsO, updO, upd, true_and, and_true, false_and, and_false, ↓reduceIte, hE] <;> rfl)⟩, k, hk, hlow, .inl (by omega), eV_⟩
        · obtain ⟨k, hk, hlow, hup, e8⟩ := hI
          dsimp only at e8
          simp only [valsE, List.cons.injEq, and_true] at hK
          simp only [valsO, List.cons.injEq, and_true] at hO
          have hE := (⟨hK, hO, e8⟩ : _ ∧ _ ∧ _)
          refine p_goJ fun hf => ?_
          refine p_split (s := 43) (ht := fun hb43 => ?_) (hf := fun hb43 => ?_)
          · have hkl : k = out.length := by simp at hb43; omega
            have hlen : (out.take k ++ [lL[i]] ++ out.drop k).length = out.length + 1 := by simp only [List.length_append, List.length_take, List.length_drop, List.length_singleton]; omega
            have hput : Srt (out.take k ++ [lL[i]] ++ out.drop k) (lL.take (i + 1)) := by rw [List.take_add_one, List.getElem?_eq_getElem hlt]; exact hS.put hk hlow (.inl hkl)
            refine p_goJ fun hf => ?_
            refine p_buildSlice (ht := Try.underlying34) (hi := F.ti9.h) (hvs := rfl) (hl := by intro v hv; cases hv) (h := ?_)
            refine p_goJ fun hf => ?_
            refine p_partHi (l := k) (ys := (out.take k).map V.str) (ht := Try.underlying34) (hi := F.ti9.h) (hl := by simpa using hk) (hys := by rw [List.map_take]) (h := ?_)
            refine p_append (k := k) (ht := Try.underlying34) (hi := F.ti9.h) (hnl := by simp) (hy := by exact .inl ⟨rfl, rfl⟩) (hm := by simp; omega) (hlim := by omega) (h := ?_)
            refine p_goJ fun hf => ?_
            refine p_idxMap (j := i) (ht := Try.underlying34) (hi := F.ti9.h) (hij := rfl) (hj := hlt) (h := ?_)
            refine p_goJ fun hf => ?_
            refine p_buildSlice (ht := Try.underlying34) (hi := F.ti9.h) (h := ?_)
            refine p_append (k := k + 1) (ht := Try.underlying34) (hi := F.ti9.h) (hnl := by simp; omega) (hy := by exact ⟨.inl oB_, rfl⟩) (hm := by simp; omega) (hlim := by omega) (h := ?_)
            refine p_goJ fun hf => ?_
            refine p_partLo (l := k) (ys := (out.drop k).map V.str) (ht := Try.underlying34) (hi := F.ti9.h) (hl := by simpa using hk) (hys := by rw [List.map_drop]) (h := ?_)
            refine p_append (k := (out.take k ++ [lL[i]] ++ out.drop k).length) (ht := Try.underlying34) (hi := F.ti9.h) (hnl := by simp; omega) (hy := by exact .inl ⟨rfl, rfl⟩) (hm := by rw [hlen]; simp; omega) (hlim := by omega) (h := ?_)
            refine p_assign (h := ?_)
            refine p_endD ?_
            refine p_frzS (s := 5) eV_ oB_ (by rw [hlen]; simp; omega) ?_
            refine p_goJ fun hf => ?_
            refine p_add (r := ((i + 1 : Nat) : Int)) (hr := (by first | omega | (simp only [decide_eq_true_eq, decide_eq_false_iff_not, Bool.or_eq_false_iff, Bool.and_eq_true, Bool.not_eq_true', Bool.not_eq_false'] at *; omega))) (hb := (by first | omega | (simp only [decide_eq_true_eq, decide_eq_false_iff_not, Bool.or_eq_false_iff, Bool.and_eq_true, Bool.not_eq_true', Bool.not_eq_false'] at *; omega))) (h := ?_)
            refine p_goJ ?_
            refine p_some ?_
            refine ⟨⟨(by simp (decide := true) only [valsE, evE, upd, cv, args0, argsFrom, List.length_map, ↓reduceIte, hE] <;> rfl), (by simp (decide := true) only [valsO, updO, upd, true_and, and_true, false_and, and_false, ↓reduceIte, hE] <;> rfl)⟩, ⟨i + 1, _, hlt, hput, by omega, by rw [List.map_append, List.map_append]; exact eV_, eV_⟩, ?_⟩
            simp (decide := true) only [upd, e7, V.toN, ↓reduceIte]; omega
          · have hkl : k ≠ out.length := by simp at hb43; omega
            have hlt2 : k < out.length := by omega
            have hup2 : strLt out[k] lL[i] = false := by rcases hup with h | ⟨_, h⟩; exact absurd h hkl; exact h
            refine p_goJ fun hf => ?_
            refine p_idxMap (j := k) (ht := Try.underlying34) (hi := F.ti9.h) (hij := rfl) (hj := hlt2) (h := ?_)
            refine p_goJ fun hf => ?_
            refine p_idxMap (j := i) (ht := Try.underlying34) (hi := F.ti9.h) (hij := rfl) (hj := hlt) (h := ?_)
            refine p_goJ fun hf => ?_
            refine p_strOp (h := ?_)
            refine p_goJ ?_
            refine p_splitC (s := 53) (ht := fun hc53 => ?_) (hf := fun hc53 => ?_)
            · have hne : out[k] ≠ lL[i] := by simpa using hc53
              have hlen : (out.take k ++ [lL[i]] ++ out.drop k).length = out.length + 1 := by simp only [List.length_append, List.length_take, List.length_drop, List.length_singleton]; omega
              have hput : Srt (out.take k ++ [lL[i]] ++ out.drop k) (lL.take (i + 1)) := by rw [List.take_add_one, List.getElem?_eq_getElem hlt]; exact hS.put hk hlow (.inr ⟨hlt2, hup2, hne⟩)
              refine p_goJ fun hf => ?_
              refine p_buildSlice (ht := Try.underlying34) (hi := F.ti9.h) (hvs := rfl) (hl := by intro v hv; cases hv) (h := ?_)
              refine p_goJ fun hf => ?_
              refine p_partHi (l := k) (ys := (out.take k).map V.str) (ht := Try.underlying34) (hi := F.ti9.h) (hl := by simpa using hk) (hys := by rw [List.map_take]) (h := ?_)
              refine p_append (k := k) (ht := Try.underlying34) (hi := F.ti9.h) (hnl := by simp) (hy := by exact .inl ⟨rfl, rfl⟩) (hm := by simp; omega) (hlim := by omega) (h := ?_)
              refine p_goJ fun hf => ?_
              refine p_idxMap (j := i) (ht := Try.underlying34) (hi := F.ti9.h) (hij := rfl) (hj := hlt) (h := ?_)
              refine p_goJ fun hf => ?_
              refine p_buildSlice (ht := Try.underlying34) (hi := F.ti9.h) (h := ?_)
              refine p_append (k := k + 1) (ht := Try.underlying34) (hi := F.ti9.h) (hnl := by simp; omega) (hy := by exact ⟨.inl oB_, rfl⟩) (hm := by simp; omega) (hlim := by omega) (h := ?_)
              refine p_goJ fun hf => ?_
              refine p_partLo (l := k) (ys := (out.drop k).map V.str) (ht := Try.underlying34) (hi := F.ti9.h) (hl := by simpa using hk) (hys := by rw [List.map_drop]) (h := ?_)
              refine p_append (k := (out.take k ++ [lL[i]] ++ out.drop k).length) (ht := Try.underlying34) (hi := F.ti9.h) (hnl := by simp; omega) (hy := by exact .inl ⟨rfl, rfl⟩) (hm := by rw [hlen]; simp; omega) (hlim := by omega) (h := ?_)
              refine p_assign (h := ?_)
              refine p_endD ?_
              refine p_frzS (s := 5) eV_ oB_ (by rw [hlen]; simp; omega) ?_
              refine p_goJ fun hf => ?_
              refine p_add (r := ((i + 1 : Nat) : Int)) (hr := (by first | omega | (simp only [decide_eq_true_eq, decide_eq_false_iff_not, Bool.or_eq_false_iff, Bool.and_eq_true, Bool.not_eq_true', Bool.not_eq_false'] at *; omega))) (hb := (by first | omega | (simp only [decide_eq_true_eq, decide_eq_false_iff_not, Bool.or_eq_false_iff, Bool.and_eq_true, Bool.not_eq_true', Bool.not_eq_false'] at *; omega))) (h := ?_)
              refine p_goJ ?_
              refine p_some ?_
              refine ⟨⟨(by simp (decide := true) only [valsE, evE, upd, cv, args0, argsFrom, List.length_map, ↓reduceIte, hE] <;> rfl), (by simp (decide := true) only [valsO, updO, upd, true_and, and_true, false_and, and_false, ↓reduceIte, hE] <;> rfl)⟩, ⟨i + 1, _, hlt, hput, by omega, by rw [List.map_append, List.map_append]; exact eV_, eV_⟩, ?_⟩
              simp (decide := true) only [upd, e7, V.toN, ↓reduceIte]; omega
            · have heq : out[k] = lL[i] := by simpa using hc53
              have hsame : Srt out (lL.take (i + 1)) := by rw [List.take_add_one, List.getElem?_eq_getElem hlt]; exact hS.same hlt2 heq
              refine p_goJ fun hf => ?_
              refine p_add (r := ((i + 1 : Nat) : Int)) (hr := (by first | omega | (simp only [decide_eq_true_eq, decide_eq_false_iff_not, Bool.or_eq_false_iff, Bool.and_eq_true, Bool.not_eq_true', Bool.not_eq_false'] at *; omega))) (hb := (by first | omega | (simp only [decide_eq_true_eq, decide_eq_false_iff_not, Bool.or_eq_false_iff, Bool.and_eq_true, Bool.not_eq_true', Bool.not_eq_false'] at *; omega))) (h := ?_)
              refine p_goJ ?_
              refine p_some ?_
              refine ⟨⟨(by simp (decide := true) only [valsE, evE, upd, cv, args0, argsFrom, List.length_map, ↓reduceIte, hE] <;> rfl), (by simp (decide := true) only [valsO, updO, upd, true_and, and_true, false_and, and_false, ↓reduceIte, hE] <;> rfl)⟩, ⟨i + 1, out, hlt, hsame, by omega, eV_, eV_⟩, ?_⟩
              simp (decide := true) only [upd, e7, V.toN, ↓reduceIte]; omega
      · have hge : ¬ i < lL.length := by simpa using hc19
        have htk : lL.take i = lL := List.take_of_length_le (by omega)
        rw [htk] at hS
        refine p_goJ ?_
        refine p_r2 (hp := by rw [hnm, he, hS.fin])

theorem same_self (zs : List (List UInt8)) (hz : zs.length ≤ 1000000) : FnC Try.prog 24 [.sl 9 (zs.map zV), .sl 9 (zs.map zV)] (fun r => r = .bool true) := by
  refine FnC.of (fn := Try.f24) ⟨Try.func24, by kernel_rfl, rfl⟩ Try.ntmps24 (by simp) fun w0 S0 => ?_
  refine p_go ?_
  refine p_splitC (s := 10) (ht := fun hc10 => ?_) (hf := fun hc10 => ?_)
  · have hF : False := by simp at hc10
    refine p_go ?_
    refine p_ret1 (hp := by exact hF.elim)
  · refine p_go ?_
    refine p_loopK [0, 1] [] (fun st => ∃ i : Nat, (i ≤ zs.length) ∧ st.env 5 = inV i) (fun st => zs.length - (st.env 5).toN) ?_ fun e ob g1 hK hO hI => ?_
    · exact ⟨0, by omega, eV_⟩
    · obtain ⟨i, hi, e5⟩ := hI
      dsimp only at e5
      simp only [valsE, List.cons.injEq, and_true] at hK
      have hE := (⟨hK, e5⟩ : _ ∧ _)
      refine p_go ?_
      refine p_splitC (s := 14) (ht := fun hc14 => ?_) (hf := fun hc14 => ?_)
      · have hlt : i < zs.length := by simpa using hc14
        refine p_go fun hf => ?_
        refine p_idxMap (j := i) (ht := Try.underlying34) (hi := F.ti9.h) (hij := rfl) (hj := hlt) (h := ?_)
        refine p_go fun hf => ?_
        refine p_idxMap (j := i) (ht := Try.underlying34) (hi := F.ti9.h) (hij := rfl) (hj := hlt) (h := ?_)
        refine p_go fun hf => ?_
        refine p_strOp (h := ?_)
        refine p_go ?_
        refine p_splitC (s := 25) (ht := fun hc25 => ?_) (hf := fun hc25 => ?_)
        · have hF : False := by simp at hc25
          refine p_go ?_
          refine p_ret1 (hp := by exact hF.elim)
        · refine p_go fun hf => ?_
          refine p_add (r := ((i + 1 : Nat) : Int)) (hr := (by first | omega | (simp only [decide_eq_true_eq, decide_eq_false_iff_not, Bool.or_eq_false_iff, Bool.and_eq_true, Bool.not_eq_true', Bool.not_eq_false'] at *; omega))) (hb := (by first | omega | (simp only [decide_eq_true_eq, decide_eq_false_iff_not, Bool.or_eq_false_iff, Bool.and_eq_true, Bool.not_eq_true', Bool.not_eq_false'] at *; omega))) (h := ?_)
          refine p_go ?_
          refine p_some ?_
          refine ⟨⟨(by simp (decide := true) only [valsE, evE, upd, cv, args0, argsFrom, List.length_map, ↓reduceIte, hE] <;> rfl), (by simp (decide := true) only [valsO, updO, upd, true_and, and_true, false_and, and_false, ↓reduceIte, hE] <;> rfl)⟩, ⟨i + 1, hlt, eV_⟩, ?_⟩
          simp (decide := true) only [upd, e5, V.toN, ↓reduceIte]; omega
      · refine p_go ?_
        refine p_ret1 (hp := by rfl)

end Go.Proofs.Ytjdhkopjigijfaa
