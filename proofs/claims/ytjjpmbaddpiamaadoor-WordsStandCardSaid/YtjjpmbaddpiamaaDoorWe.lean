/-
  words.Split of texts of at most 65536 bytes: it answers the tokens, or where none can be.
-/
import Derived.Test.YtjjpmbaddpiamaaDoorWd
set_option linter.unusedSimpArgs false
set_option linter.unusedVariables false
set_option maxHeartbeats 8000000
namespace Go.Proofs.YtjjpmbaddpiamaaDoor
open Go.RowKit
attribute [local irreducible] Wk Tr
def splitV (s : ByteArray) : V := match (tks s).2 with
  | none => .tup [.sl 29 ((tks s).1.map tokV), iV 0, iV 0, iV 0]
  | some p => .tup [.nil, iV p.1, iV p.2, iV 60]
theorem splitV_ok {s : ByteArray} {acc : List Tok} (h : tks s = (acc, none)) : splitV s = .tup [.sl 29 (acc.map tokV), iV 0, iV 0, iV 0] := by rw [splitV, h]
theorem splitV_bad {s : ByteArray} {acc : List Tok} {p : Nat × Nat} (h : tks s = (acc, some p)) : splitV s = .tup [.nil, iV p.1, iV p.2, iV 60] := by rw [splitV, h]
theorem indexB (s : ByteArray) : FnC Tryd.prog 33 [.str s, .int .u8 10] (fun r => r = iV (Lib.indexByte s.data.toList 10)) := by
  refine FnC.lib [.string s, .int .u8 10] (fun w S cs hc => ?_) fun w hg => ?_
  · match cs, hc with
    | [x, y], hc => simp only [VRs, VR, RL, and_true] at hc; rw [hc.1, hc.2]
  · refine (Tryd.strings_IndexByte s 10 w).mono ?_
    rintro e w' ⟨rfl, rfl⟩
    exact ⟨_, _, rfl, Below.refl _ _, fun S => (by simp only [RV, RU, RL]; rfl), rfl⟩
theorem tkz_nl {s : ByteArray} {f i ln cl : Nat} (h1 : i < s.size) (h : bt s i = 10) : tkz s (f + 1) i ln cl = tkz s f (i + 1) (ln + 1) 1 := by rw [tkz, if_pos h1, if_pos h]
theorem tkz_bl {s : ByteArray} {f i ln cl : Nat} (h1 : i < s.size) (h2 : ¬ bt s i = 10) (h : bt s i = 9 ∨ bt s i = 13 ∨ bt s i = 32) : tkz s (f + 1) i ln cl = tkz s f (i + 1) ln (cl + 1) := by rw [tkz, if_pos h1, if_neg h2, if_pos h]
theorem tkz_rm0 {s : ByteArray} {f i ln cl : Nat} (h1 : i < s.size) (h : bt s i = 35) (hn : Lib.indexByte (s.extract i s.size).data.toList 10 < 0) : tkz s (f + 1) i ln cl = ([], none) := by rw [tkz, if_pos h1, if_neg (by omega), if_neg (by omega), if_pos h, if_pos hn]
theorem tkz_rm {s : ByteArray} {f i ln cl k : Nat} (h1 : i < s.size) (h : bt s i = 35) (hn : Lib.indexByte (s.extract i s.size).data.toList 10 = (k : Int)) : tkz s (f + 1) i ln cl = tkz s f (i + k) ln (cl + k) := by rw [tkz, if_pos h1, if_neg (by omega), if_neg (by omega), if_pos h, hn, if_neg (by omega)]; rfl
theorem tkz_bad {s : ByteArray} {f i ln cl : Nat} (h1 : i < s.size) (h2 : ¬ bt s i = 10) (h3 : ¬ (bt s i = 9 ∨ bt s i = 13 ∨ bt s i = 32)) (h4 : ¬ bt s i = 35) (h : rightB (s.extract i (i + (pieceN (s.extract i s.size)).1)) (pieceN (s.extract i s.size)).2 = false) : tkz s (f + 1) i ln cl = ([], some (ln, cl)) := by rw [tkz, if_pos h1, if_neg h2, if_neg h3, if_neg h4, h]; rfl
theorem tkz_tok {s : ByteArray} {f i ln cl : Nat} (h1 : i < s.size) (h2 : ¬ bt s i = 10) (h3 : ¬ (bt s i = 9 ∨ bt s i = 13 ∨ bt s i = 32)) (h4 : ¬ bt s i = 35) (h : rightB (s.extract i (i + (pieceN (s.extract i s.size)).1)) (pieceN (s.extract i s.size)).2 = true) :
    tkz s (f + 1) i ln cl = (⟨(pieceN (s.extract i s.size)).2, s.extract i (i + (pieceN (s.extract i s.size)).1), ln, cl⟩ :: (tkz s f (i + (pieceN (s.extract i s.size)).1) ln (cl + (pieceN (s.extract i s.size)).1)).1, (tkz s f (i + (pieceN (s.extract i s.size)).1) ln (cl + (pieceN (s.extract i s.size)).1)).2) := by rw [tkz, if_pos h1, if_neg h2, if_neg h3, if_neg h4, if_pos h]
theorem tkz_end {s : ByteArray} {f i ln cl : Nat} (h1 : ¬ i < s.size) : tkz s f i ln cl = ([], none) := by
  cases f with
  | zero => rfl
  | succ f => rw [tkz, if_neg h1]

theorem splitP (s : ByteArray) (hs : s.size ≤ 65536) : FnP Tryd.prog 7 [.str s] [] [] (fun r vs => r = splitV s) (fun v vs => False) := by
  refine FnP.of (fn := Tryd.f7) ⟨Tryd.func7, by kernel_rfl, rfl⟩ Tryd.ntmps7 (by simp) fun w0 S0 l ob0 g0 K KP hrow hgl hK0 hKP0 => ?_
  simp only [valsO, List.cons.injEq, and_true] at hrow
  simp only [List.mem_cons, List.not_mem_nil, or_false, forall_eq_or_imp, forall_eq, forall_const] at hgl
  have hE := hrow
  refine p_go ?_
  refine p_splitC (s := 9) (ht := fun hc9 => ?_) (hf := fun hc9 => ?_)
  · have hF : False := by simp at hc9; omega
    exact hF.elim
  · refine p_go fun hf => ?_
    refine p_defer (h := ?_)
    refine p_go fun hf => ?_
    refine p_enter (hb := ⟨Tryd.func17, by kernel_rfl, rfl⟩) (hnt := Tryd.ntmps17) (hle := by simp) (h := fun a0 => ?_)
    refine p_go ?_
    refine p_retE1 (v := .fn 32 [.ptr (g0 + 1 + 1 + 1 + 1 + 1) 1 0]) rfl eV_ ?_
    refine p_end ?_
    refine TrC.block ?_
    refine p_up fun hf => ?_
    refine p_nilCell (g1 := g0 + 1) (d1 := 2) (i := 0) (el := 29) 900 (h := ?_)
    refine p_rangeP (hb := ⟨Tryd.func32, by kernel_rfl, rfl⟩) (hnt := Tryd.ntmps32) (hle := by exact (by decide : 1 + 1 ≤ 85)) (h := fun a1 a2 => ?_)
    refine p_go ?_
    have hne1 : ¬ (g0 + 1 + 1 + 1 + 1 + 1 = g0 + 1 + 1 + 1 + 1 + 1 + 1 + 1 + 1) := by omega
    have hne2 : ¬ (g0 + 1 + 1 + 1 + 1 + 1 + 1 + 1 + 1 = g0 + 1 + 1 + 1 + 1 + 1) := by omega
    have hE := (⟨hne1, hne2⟩ : _ ∧ _)
    refine p_loopK [0, 1] [(g0 + 1 + 1 + 1 + 1 + 1, 1), (g0 + 1, 3), (g0 + 1, 4), (g0 + 1, 5), (g0 + 1 + 1 + 1 + 1 + 1 + 1 + 1 + 1, 1), (g0 + 1 + 1 + 1 + 1 + 1 + 1 + 1 + 1, 0)] (fun st => ∃ (i ln cl f : Nat) (acc : List Tok) (q : Nat), (i ≤ s.size) ∧ (ln ≤ i + 1) ∧ (cl ≤ i + 1) ∧ (s.size < i + f) ∧ (acc.length ≤ i) ∧ (q ≤ st.gen) ∧ (g0 < q) ∧ (g0 + 1 + 1 + 1 + 1 + 1 + 1 + 1 + 1 ≤ st.gen) ∧ (LowQ g0 [] ob0 st.obj) ∧ (tks s = (acc ++ (tkz s f i ln cl).1, (tkz s f i ln cl).2)) ∧ st.env 3 = iV ln ∧ st.env 4 = iV cl ∧ st.env 5 = iV i ∧ st.obj (g0 + 1) 2 = .cells 23 [.row q 900 acc.length] ∧ st.obj q 900 = .row 29 (acc.map tokV)) (fun st => s.size - (st.env 5).toN) ?_ fun e ob g1 hK hO hI => ?_
    · exact ⟨0, 1, 1, s.size + 1, [], g0 + 1 + 1 + 1 + 1 + 1 + 1 + 1, by omega, by omega, by omega, by omega, by simp, by (try dsimp only); omega, by omega, by (try dsimp only); omega, (by (try dsimp only); repeat (first | exact hlow | exact LowQ.refl | refine LowQ.or_ ?_ (by assumption) | refine LowQ.up ?_ (by omega) | refine LowQ.at_ ?_ (by simp))), rfl, eV_, eV_, eV_, oB_, oB_⟩
    · obtain ⟨i, ln, cl, f, acc, q, hi, hln, hcl, hf1, hal, hq, hq0, hgI, hlow, hT, e3, e4, e5, oC, oR⟩ := hI
      dsimp only at e3 e4 e5 oC oR
      simp only [valsE, List.cons.injEq, and_true] at hK
      simp only [valsO, List.cons.injEq, and_true] at hO
      have hE := (⟨hK, hO, e3, e4, e5, oC, oR⟩ : _ ∧ _ ∧ _ ∧ _ ∧ _ ∧ _ ∧ _)
      dsimp only at hq hgI hlow
      obtain ⟨f1, rfl⟩ : ∃ f1, f = f1 + 1 := ⟨f - 1, by omega⟩
      have hE := (⟨hK, hO, e3, e4, e5, oC, oR, hne1, hne2⟩ : _ ∧ _ ∧ _ ∧ _ ∧ _ ∧ _ ∧ _ ∧ _ ∧ _)
      refine p_go ?_
      refine p_splitC (s := 13) (ht := fun hc13 => ?_) (hf := fun hc13 => ?_)
      · have hlt : i < s.size := by simpa using hc13
        have hne0 := hne1
        refine p_go fun hf => ?_
        refine p_idxB (i) (hj := hlt) (h := ?_)
        refine p_go ?_
        refine p_splitC (s := 18) (ht := fun hc18 => ?_) (hf := fun hc18 => ?_)
        · have h10 : bt s i = 10 := by simpa using hc18
          refine p_go fun hf => ?_
          refine p_add (r := ((i + 1 : Nat) : Int)) (hr := (by first | omega | (simp only [decide_eq_true_eq, decide_eq_false_iff_not, Bool.or_eq_false_iff, Bool.and_eq_true, Bool.not_eq_true', Bool.not_eq_false'] at *; omega))) (hb := (by first | omega | (simp only [decide_eq_true_eq, decide_eq_false_iff_not, Bool.or_eq_false_iff, Bool.and_eq_true, Bool.not_eq_true', Bool.not_eq_false'] at *; omega))) (h := ?_)
          refine p_go fun hf => ?_
          refine p_add (r := ((ln + 1 : Nat) : Int)) (hr := (by first | omega | (simp only [decide_eq_true_eq, decide_eq_false_iff_not, Bool.or_eq_false_iff, Bool.and_eq_true, Bool.not_eq_true', Bool.not_eq_false'] at *; omega))) (hb := (by first | omega | (simp only [decide_eq_true_eq, decide_eq_false_iff_not, Bool.or_eq_false_iff, Bool.and_eq_true, Bool.not_eq_true', Bool.not_eq_false'] at *; omega))) (h := ?_)
          refine p_go ?_
          refine p_some ?_
          refine ⟨⟨(by simp (decide := true) only [valsE, evE, upd, cv, args0, argsFrom, List.length_map, ↓reduceIte, hE] <;> rfl), (by simp (decide := true) only [valsO, updO, upd, true_and, and_true, false_and, and_false, ↓reduceIte, hE] <;> rfl)⟩, ⟨i + 1, ln + 1, 1, f1, acc, q, by omega, by omega, by omega, by omega, by first | omega | (simp; omega), by (try dsimp only); omega, by omega, by (try dsimp only); omega, (by (try dsimp only); repeat (first | exact hlow | exact LowQ.refl | refine LowQ.or_ ?_ (by assumption) | refine LowQ.up ?_ (by omega) | refine LowQ.at_ ?_ (by simp))), by rw [← tkz_nl hlt h10]; exact hT, eV_, eV_, eV_, oB_, oB_⟩, ?_⟩
          simp (decide := true) only [upd, e5, V.toN, ↓reduceIte]; omega
        · have h10 : ¬ bt s i = 10 := by simpa using hc18
          refine p_go ?_
          refine p_splitC (s := 24) (ht := fun hc24 => ?_) (hf := fun hc24 => ?_)
          · refine p_go fun hf => ?_
            refine p_add (r := ((i + 1 : Nat) : Int)) (hr := (by first | omega | (simp only [decide_eq_true_eq, decide_eq_false_iff_not, Bool.or_eq_false_iff, Bool.and_eq_true, Bool.not_eq_true', Bool.not_eq_false'] at *; omega))) (hb := (by first | omega | (simp only [decide_eq_true_eq, decide_eq_false_iff_not, Bool.or_eq_false_iff, Bool.and_eq_true, Bool.not_eq_true', Bool.not_eq_false'] at *; omega))) (h := ?_)
            refine p_go fun hf => ?_
            refine p_add (r := ((cl + 1 : Nat) : Int)) (hr := (by first | omega | (simp only [decide_eq_true_eq, decide_eq_false_iff_not, Bool.or_eq_false_iff, Bool.and_eq_true, Bool.not_eq_true', Bool.not_eq_false'] at *; omega))) (hb := (by first | omega | (simp only [decide_eq_true_eq, decide_eq_false_iff_not, Bool.or_eq_false_iff, Bool.and_eq_true, Bool.not_eq_true', Bool.not_eq_false'] at *; omega))) (h := ?_)
            refine p_go ?_
            refine p_some ?_
            refine ⟨⟨(by simp (decide := true) only [valsE, evE, upd, cv, args0, argsFrom, List.length_map, ↓reduceIte, hE] <;> rfl), (by simp (decide := true) only [valsO, updO, upd, true_and, and_true, false_and, and_false, ↓reduceIte, hE] <;> rfl)⟩, ⟨i + 1, ln, cl + 1, f1, acc, q, by omega, by omega, by omega, by omega, by first | omega | (simp; omega), by (try dsimp only); omega, by omega, by (try dsimp only); omega, (by (try dsimp only); repeat (first | exact hlow | exact LowQ.refl | refine LowQ.or_ ?_ (by assumption) | refine LowQ.up ?_ (by omega) | refine LowQ.at_ ?_ (by simp))), by rw [← tkz_bl hlt h10 (.inl (by simpa using hc24))]; exact hT, eV_, eV_, eV_, oB_, oB_⟩, ?_⟩
            simp (decide := true) only [upd, e5, V.toN, ↓reduceIte]; omega
          · refine p_go ?_
            refine p_splitC (s := 24) (ht := fun hc24x => ?_) (hf := fun hc24x => ?_)
            · refine p_go fun hf => ?_
              refine p_add (r := ((i + 1 : Nat) : Int)) (hr := (by first | omega | (simp only [decide_eq_true_eq, decide_eq_false_iff_not, Bool.or_eq_false_iff, Bool.and_eq_true, Bool.not_eq_true', Bool.not_eq_false'] at *; omega))) (hb := (by first | omega | (simp only [decide_eq_true_eq, decide_eq_false_iff_not, Bool.or_eq_false_iff, Bool.and_eq_true, Bool.not_eq_true', Bool.not_eq_false'] at *; omega))) (h := ?_)
              refine p_go fun hf => ?_
              refine p_add (r := ((cl + 1 : Nat) : Int)) (hr := (by first | omega | (simp only [decide_eq_true_eq, decide_eq_false_iff_not, Bool.or_eq_false_iff, Bool.and_eq_true, Bool.not_eq_true', Bool.not_eq_false'] at *; omega))) (hb := (by first | omega | (simp only [decide_eq_true_eq, decide_eq_false_iff_not, Bool.or_eq_false_iff, Bool.and_eq_true, Bool.not_eq_true', Bool.not_eq_false'] at *; omega))) (h := ?_)
              refine p_go ?_
              refine p_some ?_
              refine ⟨⟨(by simp (decide := true) only [valsE, evE, upd, cv, args0, argsFrom, List.length_map, ↓reduceIte, hE] <;> rfl), (by simp (decide := true) only [valsO, updO, upd, true_and, and_true, false_and, and_false, ↓reduceIte, hE] <;> rfl)⟩, ⟨i + 1, ln, cl + 1, f1, acc, q, by omega, by omega, by omega, by omega, by first | omega | (simp; omega), by (try dsimp only); omega, by omega, by (try dsimp only); omega, (by (try dsimp only); repeat (first | exact hlow | exact LowQ.refl | refine LowQ.or_ ?_ (by assumption) | refine LowQ.up ?_ (by omega) | refine LowQ.at_ ?_ (by simp))), by rw [← tkz_bl hlt h10 (.inr (.inl (by simpa using hc24x)))]; exact hT, eV_, eV_, eV_, oB_, oB_⟩, ?_⟩
              simp (decide := true) only [upd, e5, V.toN, ↓reduceIte]; omega
            · refine p_go ?_
              refine p_splitC (s := 24) (ht := fun hc24xx => ?_) (hf := fun hc24xx => ?_)
              · refine p_go fun hf => ?_
                refine p_add (r := ((i + 1 : Nat) : Int)) (hr := (by first | omega | (simp only [decide_eq_true_eq, decide_eq_false_iff_not, Bool.or_eq_false_iff, Bool.and_eq_true, Bool.not_eq_true', Bool.not_eq_false'] at *; omega))) (hb := (by first | omega | (simp only [decide_eq_true_eq, decide_eq_false_iff_not, Bool.or_eq_false_iff, Bool.and_eq_true, Bool.not_eq_true', Bool.not_eq_false'] at *; omega))) (h := ?_)
                refine p_go fun hf => ?_
                refine p_add (r := ((cl + 1 : Nat) : Int)) (hr := (by first | omega | (simp only [decide_eq_true_eq, decide_eq_false_iff_not, Bool.or_eq_false_iff, Bool.and_eq_true, Bool.not_eq_true', Bool.not_eq_false'] at *; omega))) (hb := (by first | omega | (simp only [decide_eq_true_eq, decide_eq_false_iff_not, Bool.or_eq_false_iff, Bool.and_eq_true, Bool.not_eq_true', Bool.not_eq_false'] at *; omega))) (h := ?_)
                refine p_go ?_
                refine p_some ?_
                refine ⟨⟨(by simp (decide := true) only [valsE, evE, upd, cv, args0, argsFrom, List.length_map, ↓reduceIte, hE] <;> rfl), (by simp (decide := true) only [valsO, updO, upd, true_and, and_true, false_and, and_false, ↓reduceIte, hE] <;> rfl)⟩, ⟨i + 1, ln, cl + 1, f1, acc, q, by omega, by omega, by omega, by omega, by first | omega | (simp; omega), by (try dsimp only); omega, by omega, by (try dsimp only); omega, (by (try dsimp only); repeat (first | exact hlow | exact LowQ.refl | refine LowQ.or_ ?_ (by assumption) | refine LowQ.up ?_ (by omega) | refine LowQ.at_ ?_ (by simp))), by rw [← tkz_bl hlt h10 (.inr (.inr (by simpa using hc24xx)))]; exact hT, eV_, eV_, eV_, oB_, oB_⟩, ?_⟩
                simp (decide := true) only [upd, e5, V.toN, ↓reduceIte]; omega
              · refine p_go ?_
                refine p_splitC (s := 32) (ht := fun hc32 => ?_) (hf := fun hc32 => ?_)
                · have h35 : bt s i = 35 := by simpa using hc32
                  have hsz := sz_ext s (a := i) (Nat.le_refl s.size)
                  refine p_go fun hf => ?_
                  refine p_strTail (h' := i) (hh := by omega) (h := ?_)
                  refine p_call (hx := rfl) (hb := ⟨Tryd.func33, by kernel_rfl, rfl⟩) (hf := indexB (s.extract i s.size)) (h := ?_)
                  refine p_go ?_
                  refine p_splitC (s := 39) (ht := fun hc39 => ?_) (hf := fun hc39 => ?_)
                  · have hneg : Lib.indexByte (s.extract i s.size).data.toList 10 < 0 := by simpa using hc39
                    rw [tkz_rm0 hlt h35 hneg, List.append_nil] at hT
                    refine p_go ?_
                    refine p_retP ?_
                    refine p_retE0' rfl ?_
                    refine p_rngN (h := ?_)
                    (repeat (first | with_reducible refine Tr.then_normal ?_ | with_reducible refine Tr.block_normal ?_ | with_reducible refine Tr.then_exit ?_ | with_reducible refine Tr.block_exit_same ?_ | with_reducible refine Tr.block_exit_other (by decide) ?_ | with_reducible refine Tr.then_ret ?_ | with_reducible refine Tr.block_ret ?_))
                    refine p_seq (p_region fun hf => ?_)
                    (first | refine p_load (ht := F.leaf23.h) (h := ?_) | refine p_loadRef (ht := F.leaf23.h) (h := ?_))
                    refine p_store1 F.ti23.h (h := ?_)
                    refine p_store1 F.ti3.h (h := ?_)
                    refine p_store1 F.ti3.h (h := ?_)
                    refine p_store1 F.ti24.h (h := ?_)
                    refine p_end ?_
                    refine TrC.ret ?_
                    refine p_freeze (g1 := q) (d1 := 900) (h := ?_)
                    refine p_cellSl (g1 := g0 + 1) (d1 := 2) (i := 0) (el := 29) (hn := by simp) (h := ?_)
                    refine p_retPD ?_
                    refine p_leaveMark (h := ?_)
                    refine p_recovers (.nilIface) (hb := ⟨Tryd.func16, by kernel_rfl, rfl⟩) (hnt := Tryd.ntmps16) (hle := by simp) (hops := rfl) (hd1 := by decide) (hd2 := by decide) (hm := .inr ⟨rfl, rfl⟩) (hxv := rfl) (h := fun a0 => ?_)
                    refine p_go fun hf => ?_
                    refine p_neqNilIface (ht := Tryd.underlying20) (h := ?_)
                    refine p_end ?_
                    refine p_condF (h := ?_)
                    refine p_skip ?_
                    refine p_retS (p_retE0 rfl ?_)
                    refine p_leftP (p_retP ?_)
                    refine p_retW4 (v1 := .sl 29 (acc.map tokV)) (v2 := iV (0)) (v3 := iV (0)) (v4 := iV (0)) rfl (w_leaf eV_ oB_ F.leaf23.h rfl) (w_leaf eV_ oB_ F.leaf3.h rfl) (w_leaf eV_ oB_ F.leaf3.h rfl) (w_leaf eV_ oB_ F.leaf24.h rfl) (hK0 _ _ _ (by first | (dsimp only; omega) | omega) (by (try dsimp only); repeat (first | exact hlow | exact LowQ.refl | refine LowQ.or_ ?_ (by assumption) | refine LowQ.up ?_ (by omega) | refine LowQ.at_ ?_ (by simp))) ((splitV_ok hT).symm))
                  · obtain ⟨k, hk, hk1, hk2⟩ : ∃ k : Nat, Lib.indexByte (s.extract i s.size).data.toList 10 = (k : Int) ∧ i + k < s.size ∧ 1 ≤ k := by
                      rcases nl_spec s i with ⟨h1, _⟩ | ⟨k, h1, h2, h3, _⟩
                      · exfalso; rw [h1] at hc39; simp at hc39
                      · refine ⟨k, h1, h2, Nat.pos_of_ne_zero fun h => ?_⟩
                        subst h; rw [Nat.add_zero] at h3; omega
                    rw [hk]
                    refine p_go fun hf => ?_
                    refine p_add (r := ((i + k : Nat) : Int)) (hr := (by first | omega | (simp only [decide_eq_true_eq, decide_eq_false_iff_not, Bool.or_eq_false_iff, Bool.and_eq_true, Bool.not_eq_true', Bool.not_eq_false'] at *; omega))) (hb := (by first | omega | (simp only [decide_eq_true_eq, decide_eq_false_iff_not, Bool.or_eq_false_iff, Bool.and_eq_true, Bool.not_eq_true', Bool.not_eq_false'] at *; omega))) (h := ?_)
                    refine p_go fun hf => ?_
                    refine p_add (r := ((cl + k : Nat) : Int)) (hr := (by first | omega | (simp only [decide_eq_true_eq, decide_eq_false_iff_not, Bool.or_eq_false_iff, Bool.and_eq_true, Bool.not_eq_true', Bool.not_eq_false'] at *; omega))) (hb := (by first | omega | (simp only [decide_eq_true_eq, decide_eq_false_iff_not, Bool.or_eq_false_iff, Bool.and_eq_true, Bool.not_eq_true', Bool.not_eq_false'] at *; omega))) (h := ?_)
                    refine p_go ?_
                    refine p_some ?_
                    refine ⟨⟨(by simp (decide := true) only [valsE, evE, upd, cv, args0, argsFrom, List.length_map, ↓reduceIte, hE] <;> rfl), (by simp (decide := true) only [valsO, updO, upd, true_and, and_true, false_and, and_false, ↓reduceIte, hE] <;> rfl)⟩, ⟨i + k, ln, cl + k, f1, acc, q, by omega, by omega, by omega, by omega, by first | omega | (simp; omega), by (try dsimp only); omega, by omega, by (try dsimp only); omega, (by (try dsimp only); repeat (first | exact hlow | exact LowQ.refl | refine LowQ.or_ ?_ (by assumption) | refine LowQ.up ?_ (by omega) | refine LowQ.at_ ?_ (by simp))), by rw [← tkz_rm hlt h35 hk]; exact hT, eV_, eV_, eV_, oB_, oB_⟩, ?_⟩
                    simp (decide := true) only [upd, e5, V.toN, ↓reduceIte]; omega
                · have h35 : ¬ bt s i = 35 := by simpa using hc32
                  have hb3 : ¬ (bt s i = 9 ∨ bt s i = 13 ∨ bt s i = 32) := by simp at hc24 hc24x hc24xx; omega
                  have hsz := sz_ext s (a := i) (Nat.le_refl s.size)
                  have hp := pieceN_le (s := s.extract i s.size) (by omega)
                  refine p_go fun hf => ?_
                  refine p_strTail (h' := i) (hh := by omega) (h := ?_)
                  refine p_call (hx := rfl) (hb := ⟨Tryd.func34, by kernel_rfl, rfl⟩) (hf := pieceP (s.extract i s.size) (by omega) (by omega)) (h := ?_)
                  refine p_go fun hf => ?_
                  refine p_add (r := ((i + (pieceN (s.extract i s.size)).1 : Nat) : Int)) (hr := (by first | omega | (simp only [decide_eq_true_eq, decide_eq_false_iff_not, Bool.or_eq_false_iff, Bool.and_eq_true, Bool.not_eq_true', Bool.not_eq_false'] at *; omega))) (hb := (by first | omega | (simp only [decide_eq_true_eq, decide_eq_false_iff_not, Bool.or_eq_false_iff, Bool.and_eq_true, Bool.not_eq_true', Bool.not_eq_false'] at *; omega))) (h := ?_)
                  refine p_strCut (l := i) (h' := i + (pieceN (s.extract i s.size)).1) (hl := by omega) (hh := by omega) (h := ?_)
                  refine p_go fun hf => ?_
                  refine p_call (hx := rfl) (hb := ⟨Tryd.func20, by kernel_rfl, rfl⟩) (hf := rightP _ _ (by rw [sz_ext s (by omega)]; omega)) (h := ?_)
                  refine p_go ?_
                  refine p_splitC (s := 61) (ht := fun hc61 => ?_) (hf := fun hc61 => ?_)
                  · have hbad := tkz_bad (f := f1) (ln := ln) (cl := cl) hlt h10 hb3 h35 (flipT hc61)
                    rw [hbad, List.append_nil] at hT
                    refine p_go fun hf => ?_
                    refine p_build (hi := F.ti48.h) (hpl := F.pl48.h) (h := ?_)
                    refine p_mkIface (.agg #[.int .i64 ln, .int .i64 cl, .int .i64 60]) (ht := Tryd.underlying48) (hu := by intro ms h; cases h) (h := ?_)
                    have hne3 : (g0 + 1 = g1 + 1 + 1 + 1 + 1 + 1 + 1 + 1 + 1 + 1 + 1 + 1 + 1 + 1 + 1) = False := eq_false (by omega)
                    have hne4 : (g0 + 1 = g1 + 1 + 1 + 1 + 1 + 1 + 1 + 1 + 1 + 1 + 1 + 1 + 1 + 1) = False := eq_false (by omega)
                    have hne5 : (g0 + 1 = g1 + 1 + 1 + 1 + 1 + 1 + 1 + 1 + 1 + 1 + 1 + 1 + 1 + 1 + 1 + 1) = False := eq_false (by omega)
                    have hE := (⟨hK, hO, e3, e4, e5, oC, oR, hne1, hne2, hne3, hne4, hne5⟩ : _ ∧ _ ∧ _ ∧ _ ∧ _ ∧ _ ∧ _ ∧ _ ∧ _ ∧ _ ∧ _ ∧ _)
                    refine p_panic (h := ?_)
                    refine p_xP ?_
                    dsimp only
                    (repeat (first | with_reducible refine Tr.then_panic ?_ | with_reducible refine Tr.block_panic ?_))
                    refine p_xPD ?_
                    refine p_leaveMark (h := ?_)
                    refine p_recovers (.iface 48 (.agg #[.int .i64 ln, .int .i64 cl, .int .i64 60])) (hb := ⟨Tryd.func16, by kernel_rfl, rfl⟩) (hnt := Tryd.ntmps16) (hle := by simp) (hops := rfl) (hd1 := by decide) (hd2 := by decide) (hm := .inl rfl) (hxv := rfl) (h := fun a0 => ?_)
                    refine p_go fun hf => ?_
                    refine p_neqIface (ht := Tryd.underlying20) (h := ?_)
                    refine p_go fun hf => ?_
                    refine p_asIface (v := .agg #[.int .i64 ln, .int .i64 cl, .int .i64 60]) (ht := Tryd.underlying48) (hu := by intro ms h; cases h) (h := ?_)
                    refine p_move (h := ?_)
                    refine p_extract (h := ?_)
                    refine p_extract (h := ?_)
                    refine p_alloc (hi := F.ti48.h) (h := ?_)
                    refine p_storeAll F.ti48.h (h := ?_)
                    refine p_assign (h := ?_)
                    refine p_end ?_
                    refine p_seq ?_
                    refine p_seq (p_region fun hf => ?_)
                    refine p_move (h := ?_)
                    refine p_not (h := ?_)
                    refine p_end ?_
                    refine p_condF (h := ?_)
                    refine p_skip ?_
                    refine p_draw F.mixed.h fun hf => ?_
                    (first | refine p_fieldPtr (hf := F.fld48_0.h) (h := ?_) | refine p_fieldRef (hf := F.fld48_0.h) (h := ?_) | refine p_fieldRow (hf := F.fld48_0.h) (h := ?_))
                    (first | refine p_load (ht := F.leaf3.h) (h := ?_) | refine p_loadRef (ht := F.leaf3.h) (h := ?_))
                    (first | refine p_fieldPtr (hf := F.fld48_1.h) (h := ?_) | refine p_fieldRef (hf := F.fld48_1.h) (h := ?_) | refine p_fieldRow (hf := F.fld48_1.h) (h := ?_))
                    (first | refine p_load (ht := F.leaf3.h) (h := ?_) | refine p_loadRef (ht := F.leaf3.h) (h := ?_))
                    (first | refine p_fieldPtr (hf := F.fld48_2.h) (h := ?_) | refine p_fieldRef (hf := F.fld48_2.h) (h := ?_) | refine p_fieldRow (hf := F.fld48_2.h) (h := ?_))
                    (first | refine p_load (ht := F.leaf24.h) (h := ?_) | refine p_loadRef (ht := F.leaf24.h) (h := ?_))
                    refine p_store1 F.ti23.h (h := ?_)
                    refine p_store1 F.ti3.h (h := ?_)
                    refine p_store1 F.ti3.h (h := ?_)
                    refine p_store1 F.ti24.h (h := ?_)
                    refine p_endD ?_
                    refine p_retS (p_retE0 rfl ?_)
                    refine p_leftP (p_retP ?_)
                    refine p_retW4 (v1 := .nil) (v2 := iV (ln)) (v3 := iV (cl)) (v4 := iV (60)) rfl (w_leaf eV_ oB_ F.leaf23.h rfl) (w_leaf eV_ oB_ F.leaf3.h rfl) (w_leaf eV_ oB_ F.leaf3.h rfl) (w_leaf eV_ oB_ F.leaf24.h rfl) (hK0 _ _ _ (by first | (dsimp only; omega) | omega) (by (try dsimp only); repeat (first | exact hlow | exact LowQ.refl | refine LowQ.or_ ?_ (by assumption) | refine LowQ.up ?_ (by omega) | refine LowQ.at_ ?_ (by simp))) ((splitV_bad hT).symm))
                  · refine p_go fun hf => ?_
                    refine p_add (r := ((i + (pieceN (s.extract i s.size)).1 : Nat) : Int)) (hr := (by first | omega | (simp only [decide_eq_true_eq, decide_eq_false_iff_not, Bool.or_eq_false_iff, Bool.and_eq_true, Bool.not_eq_true', Bool.not_eq_false'] at *; omega))) (hb := (by first | omega | (simp only [decide_eq_true_eq, decide_eq_false_iff_not, Bool.or_eq_false_iff, Bool.and_eq_true, Bool.not_eq_true', Bool.not_eq_false'] at *; omega))) (h := ?_)
                    refine p_strCut (l := i) (h' := i + (pieceN (s.extract i s.size)).1) (hl := by omega) (hh := by omega) (h := ?_)
                    refine p_go fun hf => ?_
                    refine p_build (hi := F.ti29.h) (hpl := F.pl29.h) (h := ?_)
                    refine p_yield (h := fun a3 b3 => ?_)
                    refine p_go ?_
                    refine p_beg (h := ?_)
                    refine p_go ?_
                    refine p_splitC (s := 16) (ht := fun hc16 => ?_) (hf := fun hc16 => ?_)
                    · exact absurd hc16 (by simp; omega)
                    refine p_go fun hf => ?_
                    refine p_buildSlice (ht := Tryd.underlying23) (hi := F.ti29.h) (h := ?_)
                    refine p_append (ht := Tryd.underlying23) (hi := F.ti29.h) (u := .row _ 25 1) (ys := [tokV ⟨(pieceN (s.extract i s.size)).2, s.extract i (i + (pieceN (s.extract i s.size)).1), ln, cl⟩]) (hnl := by simp) (hy := ⟨.inl oB_, rfl⟩) (k := acc.length + 1) (hm := by simp) (hlim := by omega) (h := ?_)
                    refine p_store1 F.ti23.h (h := ?_)
                    refine p_end ?_
                    refine p_up fun hf => ?_
                    refine p_renCell (g1 := g0 + 1) (d1 := 2) (i := 0) (g2 := _) (d2 := 26) 900 (h := ?_)
                    refine p_rndN ?_
                    refine p_yldK (h := ?_)
                    have hE := (⟨hK, hO, e3, e4, e5, hne1, hne2⟩ : _ ∧ _ ∧ _ ∧ _ ∧ _ ∧ _ ∧ _)
                    refine p_go fun hf => ?_
                    refine p_add (r := ((i + (pieceN (s.extract i s.size)).1 : Nat) : Int)) (hr := (by first | omega | (simp only [decide_eq_true_eq, decide_eq_false_iff_not, Bool.or_eq_false_iff, Bool.and_eq_true, Bool.not_eq_true', Bool.not_eq_false'] at *; omega))) (hb := (by first | omega | (simp only [decide_eq_true_eq, decide_eq_false_iff_not, Bool.or_eq_false_iff, Bool.and_eq_true, Bool.not_eq_true', Bool.not_eq_false'] at *; omega))) (h := ?_)
                    refine p_go fun hf => ?_
                    refine p_add (r := ((cl + (pieceN (s.extract i s.size)).1 : Nat) : Int)) (hr := (by first | omega | (simp only [decide_eq_true_eq, decide_eq_false_iff_not, Bool.or_eq_false_iff, Bool.and_eq_true, Bool.not_eq_true', Bool.not_eq_false'] at *; omega))) (hb := (by first | omega | (simp only [decide_eq_true_eq, decide_eq_false_iff_not, Bool.or_eq_false_iff, Bool.and_eq_true, Bool.not_eq_true', Bool.not_eq_false'] at *; omega))) (h := ?_)
                    refine p_go ?_
                    refine p_some ?_
                    refine ⟨⟨(by simp (decide := true) only [valsE, evE, upd, cv, args0, argsFrom, List.length_map, ↓reduceIte, hE] <;> rfl), (by simp (decide := true) only [valsO, updO, upd, true_and, and_true, false_and, and_false, ↓reduceIte, hE] <;> rfl)⟩, ⟨i + (pieceN (s.extract i s.size)).1, ln, cl + (pieceN (s.extract i s.size)).1, f1, acc ++ [⟨(pieceN (s.extract i s.size)).2, s.extract i (i + (pieceN (s.extract i s.size)).1), ln, cl⟩], g1 + 1 + 1 + 1 + 1 + 1 + 1 + 1 + 1 + 1 + 1 + 1 + 1 + 1 + 1 + 1, by omega, by omega, by omega, by omega, by first | omega | (simp; omega), by (try dsimp only); omega, by omega, by (try dsimp only); omega, (by (try dsimp only); repeat (first | exact hlow | exact LowQ.refl | refine LowQ.or_ ?_ (by assumption) | refine LowQ.up ?_ (by omega) | refine LowQ.at_ ?_ (by simp))), by rw [hT, tkz_tok hlt h10 hb3 h35 (flipF hc61), List.append_assoc]; rfl, eV_, eV_, eV_, by rw [List.length_append, List.length_singleton]; exact oB_, by rw [List.map_append, List.map_singleton]; exact oB_⟩, ?_⟩
                    simp (decide := true) only [upd, e5, V.toN, ↓reduceIte]; omega
      · have hge : ¬ i < s.size := by simpa using hc13
        rw [tkz_end hge, List.append_nil] at hT
        refine p_go ?_
        refine p_retPn ?_
        refine p_retE0' rfl ?_
        refine p_rngN (h := ?_)
        (repeat (first | with_reducible refine Tr.then_normal ?_ | with_reducible refine Tr.block_normal ?_ | with_reducible refine Tr.then_exit ?_ | with_reducible refine Tr.block_exit_same ?_ | with_reducible refine Tr.block_exit_other (by decide) ?_ | with_reducible refine Tr.then_ret ?_ | with_reducible refine Tr.block_ret ?_))
        refine p_seq (p_region fun hf => ?_)
        (first | refine p_load (ht := F.leaf23.h) (h := ?_) | refine p_loadRef (ht := F.leaf23.h) (h := ?_))
        refine p_store1 F.ti23.h (h := ?_)
        refine p_store1 F.ti3.h (h := ?_)
        refine p_store1 F.ti3.h (h := ?_)
        refine p_store1 F.ti24.h (h := ?_)
        refine p_end ?_
        refine TrC.ret ?_
        refine p_freeze (g1 := q) (d1 := 900) (h := ?_)
        refine p_cellSl (g1 := g0 + 1) (d1 := 2) (i := 0) (el := 29) (hn := by simp) (h := ?_)
        refine p_retPD ?_
        refine p_leaveMark (h := ?_)
        refine p_recovers (.nilIface) (hb := ⟨Tryd.func16, by kernel_rfl, rfl⟩) (hnt := Tryd.ntmps16) (hle := by simp) (hops := rfl) (hd1 := by decide) (hd2 := by decide) (hm := .inr ⟨rfl, rfl⟩) (hxv := rfl) (h := fun a0 => ?_)
        refine p_go fun hf => ?_
        refine p_neqNilIface (ht := Tryd.underlying20) (h := ?_)
        refine p_end ?_
        refine p_condF (h := ?_)
        refine p_skip ?_
        refine p_retS (p_retE0 rfl ?_)
        refine p_leftP (p_retP ?_)
        refine p_retW4 (v1 := .sl 29 (acc.map tokV)) (v2 := iV (0)) (v3 := iV (0)) (v4 := iV (0)) rfl (w_leaf eV_ oB_ F.leaf23.h rfl) (w_leaf eV_ oB_ F.leaf3.h rfl) (w_leaf eV_ oB_ F.leaf3.h rfl) (w_leaf eV_ oB_ F.leaf24.h rfl) (hK0 _ _ _ (by first | (dsimp only; omega) | omega) (by (try dsimp only); repeat (first | exact hlow | exact LowQ.refl | refine LowQ.or_ ?_ (by assumption) | refine LowQ.up ?_ (by omega) | refine LowQ.at_ ?_ (by simp))) ((splitV_ok hT).symm))


end Go.Proofs.YtjjpmbaddpiamaaDoor
