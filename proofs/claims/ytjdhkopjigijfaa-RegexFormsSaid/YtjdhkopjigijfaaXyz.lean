import Derived.Test.YtjdhkopjigijfaaXwx
/-
  Same of the program; the printed text of the reference.
-/
set_option linter.unusedSimpArgs false
set_option linter.unusedVariables false
set_option maxHeartbeats 4000000
namespace Go.Proofs.Ytjdhkopjigijfaa
open Go.RowKit
attribute [local irreducible] Wk Tr
theorem eqB_op {x y : Rx} (h : x.op ≠ y.op) : eqB x y = false := eqB_false fun e => h (by rw [e])
theorem eqB_name {x y : Rx} (h : x.name ≠ y.name) : eqB x y = false := eqB_false fun e => h (by rw [e])
/-- Are two rows of expressions alike? -/
noncomputable def eqL (a b : List Rx) : Bool := @decide (a = b) (Classical.propDecidable _)
theorem eqL_true {a b : List Rx} : eqL a b = true ↔ a = b := by unfold eqL; exact @decide_eq_true_iff _ (Classical.propDecidable _)
theorem eqL_false {a b : List Rx} (h : a ≠ b) : eqL a b = false := by
  cases hb : eqL a b with
  | false => rfl
  | true => exact absurd (eqL_true.1 hb) h
theorem eqB_kids {x y : Rx} (h1 : x.op = y.op) (h2 : x.name = y.name) : eqB x y = eqL x.kids y.kids := by
  by_cases h : x.kids = y.kids
  · rw [eqL_true.2 h, eqB_true]; exact rx_ext h1 h2 h
  · rw [eqL_false h]; exact eqB_false fun e => h (by rw [e])

theorem equalFunc_rx (a b : List Rx) (ha : a.length ≤ 17592186044416) (hb : b.length ≤ 17592186044416) (fid : FuncId) (fn : Func) (code : Code) (hbd : HasBody Try.prog fid fn code) (hp : ∀ x ∈ a, ∀ y ∈ b, FnC Try.prog fid [rxA x, rxA y] (fun r => r = .bool (eqB x y))) : FnC Try.prog 50 [.sl 25 (a.map rxV), .sl 25 (b.map rxV), .fn fid []] (fun r => r = .bool (eqL a b)) := by
  refine FnC.of (fn := Try.f50) ⟨Try.func50, by kernel_rfl, rfl⟩ Try.ntmps50 (by simp) fun w0 S0 => ?_
  refine p_go ?_
  refine p_splitC (s := 14) (ht := fun hc14 => ?_) (hf := fun hc14 => ?_)
  · have hle : a.length ≠ b.length := by have := hc14; simp at this; omega
    have hne : a ≠ b := fun h => hle (by rw [h])
    refine p_go ?_
    refine p_ret1 (hp := by rw [eqL_false hne])
  · have hle : a.length = b.length := (by have := hc14; simp at this; omega)
    refine p_go ?_
    refine p_loopK [1, 2, 15, 16] [] (fun st => ∃ i : Nat, (i ≤ a.length) ∧ (∀ j (hj : j < a.length) (hj2 : j < b.length), j < i → a[j] = b[j]) ∧ st.env 17 = inV i) (fun st => a.length - (st.env 17).toN) ?_ fun e ob g1 hK hO hI => ?_
    · exact ⟨0, by omega, fun _ _ _ h => by omega, eV_⟩
    · obtain ⟨i, hi, hall, e17⟩ := hI
      dsimp only at e17
      simp only [valsE, List.cons.injEq, and_true] at hK
      simp only [valsO, List.cons.injEq, and_true] at hO
      have hE := (⟨hK, hO, e17⟩ : _ ∧ _ ∧ _)
      refine p_go ?_
      refine p_splitC (s := 18) (ht := fun hc18 => ?_) (hf := fun hc18 => ?_)
      · have hlt : i < a.length := by simpa using hc18
        have hlt2 : i < b.length := by omega
        refine p_go fun hf => ?_
        refine p_idxMap (j := i) (ht := Try.underlying23) (hi := F.ti25.h) (hij := rfl) (hj := hlt) (h := ?_)
        rw [rxV_cells]
        refine p_go fun hf => ?_
        refine p_idxMap (j := i) (ht := Try.underlying23) (hi := F.ti25.h) (hij := rfl) (hj := hlt2) (h := ?_)
        rw [rxV_cells]
        refine p_go fun hf => ?_
        refine p_call (hb := hbd) (hf := hp a[i] (List.getElem_mem hlt) b[i] (List.getElem_mem hlt2)) (h := ?_)
        refine p_go ?_
        refine p_splitC (s := 30) (ht := fun hc30 => ?_) (hf := fun hc30 => ?_)
        · have hd : eqB a[i] b[i] = false := by simpa using hc30
          have hne : a ≠ b := fun h => by subst h; rw [eqB_self] at hd; cases hd
          refine p_go ?_
          refine p_ret1 (hp := by rw [eqL_false hne])
        · have hd : a[i] = b[i] := eqB_true.1 (by simpa using hc30)
          refine p_go fun hf => ?_
          refine p_add (r := ((i + 1 : Nat) : Int)) (hr := (by first | omega | (simp only [decide_eq_true_eq, decide_eq_false_iff_not, Bool.or_eq_false_iff, Bool.and_eq_true, Bool.not_eq_true', Bool.not_eq_false'] at *; omega))) (hb := (by first | omega | (simp only [decide_eq_true_eq, decide_eq_false_iff_not, Bool.or_eq_false_iff, Bool.and_eq_true, Bool.not_eq_true', Bool.not_eq_false'] at *; omega))) (h := ?_)
          refine p_go ?_
          refine p_some ?_
          refine ⟨⟨(by simp (decide := true) only [valsE, evE, upd, cv, args0, argsFrom, List.length_map, ↓reduceIte, hE] <;> rfl), (by simp (decide := true) only [valsO, updO, upd, true_and, and_true, false_and, and_false, ↓reduceIte, hE] <;> rfl)⟩, ⟨i + 1, hlt, fun j hj hj2 h => (Nat.lt_succ_iff_lt_or_eq.1 h).elim (hall j hj hj2) (fun h => by subst h; exact hd), eV_⟩, ?_⟩
          simp (decide := true) only [upd, e17, V.toN, ↓reduceIte]; omega
      · have hge : a.length ≤ i := by simpa using hc18
        have heq : a = b := List.ext_getElem hle fun j hj hj2 => hall j hj hj2 (by omega)
        refine p_go ?_
        refine p_ret1 (hp := by rw [eqL_true.2 heq])

theorem sameP_gen (x y : Rx) (hx : x.kids.length ≤ 17592186044416) (hy : y.kids.length ≤ 17592186044416) (hrec : ∀ k ∈ x.kids, ∀ m ∈ y.kids, FnC Try.prog 25 [rxA k, rxA m] (fun r => r = .bool (eqB k m))) : FnC Try.prog 25 [rxA x, rxA y] (fun r => r = .bool (eqB x y)) := by
  refine FnC.of (fn := Try.f25) ⟨Try.func25, by kernel_rfl, rfl⟩ Try.ntmps25 (by simp) fun w0 S0 => ?_
  refine p_go fun hf => ?_
  refine p_split (s := 10) (ht := fun hb10 => ?_) (hf := fun hb10 => ?_)
  · have h1 : x.op = y.op := by simpa using hb10
    refine p_go fun hf => ?_
    refine p_strOp (h := ?_)
    refine p_go fun hf => ?_
    refine p_split (s := 17) (ht := fun hb17 => ?_) (hf := fun hb17 => ?_)
    · have h2 : x.name = y.name := by simpa using hb17
      refine p_go fun hf => ?_
      refine p_call (hx := rfl) (hb := ⟨Try.func50, by kernel_rfl, rfl⟩) (hf := equalFunc_rx x.kids y.kids hx hy _ _ _ ⟨Try.func25, by kernel_rfl, rfl⟩ hrec) (h := ?_)
      refine p_go ?_
      refine p_ret1 (hp := by rw [eqB_kids h1 h2])
    · have h2 : x.name ≠ y.name := by simpa using hb17
      refine p_go ?_
      refine p_ret1 (hp := by rw [eqB_name h2])
  · have h1 : x.op ≠ y.op := by simpa using hb10
    refine p_go ?_
    refine p_ret1 (hp := by rw [eqB_op h1])

theorem sameP (x : Rx) (hx : x.Sm) : ∀ y : Rx, y.Sm → FnC Try.prog 25 [rxA x, rxA y] (fun r => r = .bool (eqB x y)) := by
  induction x using Rx.ind with
  | _ x ih => exact fun y hy => sameP_gen x y hx.len hy.len fun k hk m hm => ih k hk (hx.kids k hk) m (hy.kids m hm)
abbrev zS (z : List UInt8) : ByteArray := ⟨z.toArray⟩
theorem zS_app (a b : List UInt8) : zS a ++ zS b = zS (a ++ b) := by
  apply ByteArray.ext
  simp [zS, ByteArray.data_append]
theorem zS_size (a : List UInt8) : (zS a).size = a.length := by simp [zS, ByteArray.size]
theorem zS_of (s : ByteArray) : zS s.data.toList = s := by obtain ⟨⟨l⟩⟩ := s; rfl

theorem withinR (op outer : Int) : FnC Try.prog 68 [iV op, iV outer] (fun r => r = .bool (wrapB op outer)) := by
  refine FnC.of (fn := Try.f68) ⟨Try.func68, by kernel_rfl, rfl⟩ Try.ntmps68 (by simp) fun w0 S0 => ?_
  refine p_go ?_
  refine p_splitC (s := 6) (ht := fun hc6 => ?_) (hf := fun hc6 => ?_)
  · have h6 : op = 6 := by simpa using hc6
    refine p_go ?_
    refine p_ret1 (hp := by rw [wrapB]; simp [h6])
  · have h6 : ¬ op = 6 := by simpa using hc6
    refine p_go ?_
    refine p_splitC (s := 10) (ht := fun hc10 => ?_) (hf := fun hc10 => ?_)
    · have h10 : op = 5 := by simpa using hc10
      refine p_go ?_
      refine p_ret1 (hp := by rw [wrapB]; simp [h10])
    · have h10 : ¬ op = 5 := by simpa using hc10
      refine p_go ?_
      refine p_splitC (s := 18) (ht := fun hc18 => ?_) (hf := fun hc18 => ?_)
      · have h18 : op = 8 := by simpa using hc18
        refine p_go ?_
        refine p_ret1 (hp := by rw [wrapB]; simp [h18])
      · have h18 : ¬ op = 8 := by simpa using hc18
        refine p_go ?_
        refine p_ret1 (hp := by rw [wrapB]; simp [h6, h10, h18])

theorem show_gen (x : Rx) (hs : x.kids.length ≤ 17592186044416) (hk : x.op = 7 ∨ x.op = 8 → 0 < x.kids.length) (hb : (wrI x).length ≤ 100000) (hkl : ∀ k ∈ x.kids, ∀ o, (wr k o).length ≤ 100000) (outer : Int) (hrec : ∀ k ∈ x.kids, ∀ outer : Int, FnC Try.prog 39 [rxA k, iV outer] (fun r => r = .str (zS (wr k outer)))) : FnC Try.prog 39 [rxA x, iV outer] (fun r => r = .str (zS (wr x outer))) := by
  refine FnC.of (fn := Try.f39) ⟨Try.func39, by kernel_rfl, rfl⟩ Try.ntmps39 (by simp) fun w0 S0 => ?_
  refine p_goJ ?_
  refine p_seq ?_
  refine p_goJ ?_
  refine p_splitC (s := 35) (ht := fun hc35 => ?_) (hf := fun hc35 => ?_)
  · have h35 : x.op = 1 := by simpa using hc35
    have hI : wrI x = x.name.data.toList := by rw [wrI, if_pos h35]
    have hoff : wr x outer = wrI x := wr_off (by rw [wrapB, h35]; simp)
    refine p_goJ ?_
    refine p_ret1 (hp := by rw [hoff, hI, zS_of])
  · have h35 : ¬ x.op = 1 := by simpa using hc35
    refine p_goJ ?_
    refine p_splitC (s := 39) (ht := fun hc39 => ?_) (hf := fun hc39 => ?_)
    · have h39 : x.op = 2 := by simpa using hc39
      have hI : wrI x = [46] := by rw [wrI, if_neg h35, if_pos h39]
      have hoff : wr x outer = wrI x := wr_off (by rw [wrapB, h39]; simp)
      refine p_goJ ?_
      refine p_ret1 (hp := by rw [hoff, hI])
    · have h39 : ¬ x.op = 2 := by simpa using hc39
      refine p_goJ ?_
      refine p_splitC (s := 41) (ht := fun hc41 => ?_) (hf := fun hc41 => ?_)
      · have h41 : x.op = 3 := by simpa using hc41
        have hI : wrI x = [37] := by rw [wrI, if_neg h35, if_neg h39, if_pos h41]
        have hoff : wr x outer = wrI x := wr_off (by rw [wrapB, h41]; simp)
        refine p_goJ ?_
        refine p_ret1 (hp := by rw [hoff, hI])
      · have h41 : ¬ x.op = 3 := by simpa using hc41
        refine p_goJ ?_
        refine p_splitC (s := 43) (ht := fun hc43 => ?_) (hf := fun hc43 => ?_)
        · have h43 : x.op = 4 := by simpa using hc43
          have hI : wrI x = [35] := by rw [wrI, if_neg h35, if_neg h39, if_neg h41, if_pos h43]
          have hoff : wr x outer = wrI x := wr_off (by rw [wrapB, h43]; simp)
          refine p_goJ ?_
          refine p_ret1 (hp := by rw [hoff, hI])
        · have h43 : ¬ x.op = 4 := by simpa using hc43
          refine p_goJ ?_
          refine p_splitC (s := 45) (ht := fun hc45 => ?_) (hf := fun hc45 => ?_)
          · have h45 : x.op = 7 := by simpa using hc45
            have hlt : 0 < x.kids.length := hk (by omega)
            have hle := hkl _ (List.getElem_mem hlt) 7
            have hI : wrI x = wr x.kids[0] 7 ++ [42] := by rw [wrI, if_neg h35, if_neg h39, if_neg h41, if_neg h43, if_pos h45, wrH_at hlt]
            have hoff : wr x outer = wrI x := wr_off (by rw [wrapB, h45]; simp)
            refine p_goJ fun hf => ?_
            refine p_idxMap (j := 0) (ht := Try.underlying23) (hi := F.ti25.h) (hij := rfl) (hj := hlt) (h := ?_)
            rw [rxV_cells]
            refine p_goJ fun hf => ?_
            refine p_call (hx := rfl) (hb := ⟨Try.func39, by kernel_rfl, rfl⟩) (hf := hrec x.kids[0] (List.getElem_mem hlt) x.op) (h := ?_)
            refine p_strAdd (hs := by have := hkl _ (List.getElem_mem hlt) x.op; rw [zS_size, show (⟨#[42]⟩ : ByteArray).size = 1 from rfl]; omega) (h := ?_)
            refine p_goJ ?_
            refine p_ret1 (hp := by rw [hoff, hI, ← zS_app, h45]; try rfl)
          · have h45 : ¬ x.op = 7 := by simpa using hc45
            refine p_goJ ?_
            refine p_splitC (s := 55) (ht := fun hc55 => ?_) (hf := fun hc55 => ?_)
            · have h55 : x.op = 8 := by simpa using hc55
              have hlt : 0 < x.kids.length := hk (by omega)
              have hle := hkl _ (List.getElem_mem hlt) 8
              have hI : wrI x = ([33] : List UInt8) ++ wr x.kids[0] 8 := by rw [wrI, if_neg h35, if_neg h39, if_neg h41, if_neg h43, if_neg h45, if_pos h55, wrH_at hlt]
              refine p_goJ fun hf => ?_
              refine p_idxMap (j := 0) (ht := Try.underlying23) (hi := F.ti25.h) (hij := rfl) (hj := hlt) (h := ?_)
              rw [rxV_cells]
              refine p_goJ fun hf => ?_
              refine p_call (hx := rfl) (hb := ⟨Try.func39, by kernel_rfl, rfl⟩) (hf := hrec x.kids[0] (List.getElem_mem hlt) x.op) (h := ?_)
              refine p_strAdd (hs := by have := hkl _ (List.getElem_mem hlt) x.op; show 1 + (zS (wr x.kids[0] x.op)).size ≤ 9223372036854775807; rw [zS_size]; omega) (h := ?_)
              refine p_goJ ?_
              refine p_seq ?_
              refine p_goJ fun hf => ?_
              refine p_call (hx := rfl) (hb := ⟨Try.func68, by kernel_rfl, rfl⟩) (hf := withinR x.op outer) (h := ?_)
              refine p_goJ ?_
              refine p_splitC (s := 68) (ht := fun hc68 => ?_) (hf := fun hc68 => ?_)
              · have hw : wrapB x.op outer = true := hc68
                refine p_goJ fun hf => ?_
                refine p_strAdd (hs := by simp only [zS_size, ByteArray.size_append, show (⟨#[33]⟩ : ByteArray).size = 1 from rfl, show (⟨#[40]⟩ : ByteArray).size = 1 from rfl, show (⟨#[41]⟩ : ByteArray).size = 1 from rfl]; have := hkl _ (List.getElem_mem hlt) x.op; omega) (h := ?_)
                refine p_strAdd (hs := by simp only [zS_size, ByteArray.size_append, show (⟨#[33]⟩ : ByteArray).size = 1 from rfl, show (⟨#[40]⟩ : ByteArray).size = 1 from rfl, show (⟨#[41]⟩ : ByteArray).size = 1 from rfl]; have := hkl _ (List.getElem_mem hlt) x.op; omega) (h := ?_)
                refine p_goJ ?_
                refine p_ret1 (hp := by rw [wr_on hw, hI, h55, ← zS_app, ← zS_app, ← zS_app]; try rfl)
              · have hw : wrapB x.op outer = false := by simpa using hc68
                refine p_goJ ?_
                refine p_ret1 (hp := by rw [wr_off hw, hI, h55, ← zS_app]; try rfl)
            · have h55 : ¬ x.op = 8 := by simpa using hc55
              have hI : wrI x = wrL x.kids x.op true := by rw [wrI, if_neg h35, if_neg h39, if_neg h41, if_neg h43, if_neg h45, if_neg h55]
              refine p_goJ ?_
              refine p_joinK [1, 2, 5] [(0 + 1, 2)] (fun st => (True) ∧ st.env 6 = .str (sepB x.op)) ?_ fun e ob gS3 hK hO hI => ?_
              ·
                refine p_goJ ?_
                refine p_splitC (s := 12) (ht := fun hc12 => ?_) (hf := fun hc12 => ?_)
                · have h12 : x.op = 6 := by simpa using hc12
                  refine p_goJ ?_
                  refine p_some ?_
                  refine ⟨⟨(by simp (decide := true) only [valsE, evE, upd, cv, args0, argsFrom, List.length_map, ↓reduceIte, hE] <;> rfl), (by simp (decide := true) only [valsO, updO, upd, true_and, and_true, false_and, and_false, ↓reduceIte, hE] <;> rfl)⟩, trivial, by rw [sepB]; simp_all [upd]⟩
                · have h12 : ¬ x.op = 6 := by simpa using hc12
                  refine p_goJ ?_
                  refine p_some ?_
                  refine ⟨⟨(by simp (decide := true) only [valsE, evE, upd, cv, args0, argsFrom, List.length_map, ↓reduceIte, hE] <;> rfl), (by simp (decide := true) only [valsO, updO, upd, true_and, and_true, false_and, and_false, ↓reduceIte, hE] <;> rfl)⟩, trivial, by rw [sepB]; simp_all [upd]⟩
              · obtain ⟨hz, e6⟩ := hI
                dsimp only at e6
                simp only [valsE, List.cons.injEq, and_true] at hK
                simp only [valsO, List.cons.injEq, and_true] at hO
                have hE := (⟨hK, hO, e6⟩ : _ ∧ _ ∧ _)
                refine p_goJ ?_
                refine p_loopK [1, 2, 6] [(0 + 1, 2)] (fun st => ∃ (i : Nat) (b : List UInt8), (i ≤ x.kids.length) ∧ (b ++ wrL (x.kids.drop i) x.op (decide (i = 0)) = wrI x) ∧ st.env 5 = .str (zS b) ∧ st.env 7 = inV i) (fun st => x.kids.length - (st.env 7).toN) ?_ fun e ob g1 hK hO hI => ?_
                · exact ⟨0, [], by omega, by rw [hI]; rfl, eV_, eV_⟩
                · obtain ⟨i, b, hi, hbs, e5, e7⟩ := hI
                  dsimp only at e5 e7
                  simp only [valsE, List.cons.injEq, and_true] at hK
                  simp only [valsO, List.cons.injEq, and_true] at hO
                  have hE := (⟨hK, hO, e5, e7⟩ : _ ∧ _ ∧ _ ∧ _)
                  refine p_seq ?_
                  refine p_goJ ?_
                  refine p_splitC (s := 17) (ht := fun hc17 => ?_) (hf := fun hc17 => ?_)
                  · have hlt : i < x.kids.length := by simpa using hc17
                    have hdr := drop_at hlt
                    have hlen := congrArg List.length hbs
                    rw [hdr, wrL] at hlen
                    simp only [List.length_append] at hlen
                    rw [hdr, wrL] at hbs
                    have hsz : (sepB x.op).data.toList.length = (sepB x.op).size := by rw [Array.length_toList]; rfl
                    have hsl : (sepB x.op).size ≤ 3 := by unfold sepB; split <;> decide
                    refine p_goJ ?_
                    refine p_seq ?_
                    refine p_goJ ?_
                    refine p_seq ?_
                    refine p_goJ ?_
                    refine p_splitC (s := 21) (ht := fun hc21 => ?_) (hf := fun hc21 => ?_)
                    · have h0 : ¬ i = 0 := by simp at hc21; omega
                      rw [decide_eq_false h0] at hbs hlen
                      simp only [Bool.false_eq_true, if_false, hsz] at hlen hbs
                      refine p_goJ fun hf => ?_
                      refine p_strAdd (hs := by rw [zS_size]; omega) (h := ?_)
                      refine p_goJ fun hf => ?_
                      refine p_idxMap (j := i) (ht := Try.underlying23) (hi := F.ti25.h) (hij := rfl) (hj := hlt) (h := ?_)
                      rw [rxV_cells]
                      refine p_goJ fun hf => ?_
                      refine p_call (hx := rfl) (hb := ⟨Try.func39, by kernel_rfl, rfl⟩) (hf := hrec x.kids[i] (List.getElem_mem hlt) x.op) (h := ?_)
                      refine p_strAdd (hs := by simp only [zS_size, ByteArray.size_append]; omega) (h := ?_)
                      refine p_goJ fun hf => ?_
                      refine p_add (r := ((i + 1 : Nat) : Int)) (hr := (by first | omega | (simp only [decide_eq_true_eq, decide_eq_false_iff_not, Bool.or_eq_false_iff, Bool.and_eq_true, Bool.not_eq_true', Bool.not_eq_false'] at *; omega))) (hb := (by first | omega | (simp only [decide_eq_true_eq, decide_eq_false_iff_not, Bool.or_eq_false_iff, Bool.and_eq_true, Bool.not_eq_true', Bool.not_eq_false'] at *; omega))) (h := ?_)
                      refine p_goJ ?_
                      refine p_some ?_
                      refine ⟨⟨(by simp (decide := true) only [valsE, evE, upd, cv, args0, argsFrom, List.length_map, ↓reduceIte, hE] <;> rfl), (by simp (decide := true) only [valsO, updO, upd, true_and, and_true, false_and, and_false, ↓reduceIte, hE] <;> rfl)⟩, ⟨i + 1, b ++ (sepB x.op).data.toList ++ wr x.kids[i] x.op, hlt, by rw [decide_eq_false (by omega : ¬ i + 1 = 0), ← hbs]; simp [List.append_assoc], by rw [← zS_app, ← zS_app, zS_of]; exact eV_, eV_⟩, ?_⟩
                      simp (decide := true) only [upd, e7, V.toN, ↓reduceIte]; omega
                    · have h0 : i = 0 := by simp at hc21; omega
                      rw [decide_eq_true h0] at hbs hlen
                      simp only [if_true, List.nil_append, List.length_nil] at hlen hbs
                      refine p_goJ fun hf => ?_
                      refine p_idxMap (j := i) (ht := Try.underlying23) (hi := F.ti25.h) (hij := rfl) (hj := hlt) (h := ?_)
                      rw [rxV_cells]
                      refine p_goJ fun hf => ?_
                      refine p_call (hx := rfl) (hb := ⟨Try.func39, by kernel_rfl, rfl⟩) (hf := hrec x.kids[i] (List.getElem_mem hlt) x.op) (h := ?_)
                      refine p_strAdd (hs := by simp only [zS_size, ByteArray.size_append]; omega) (h := ?_)
                      refine p_goJ fun hf => ?_
                      refine p_add (r := ((i + 1 : Nat) : Int)) (hr := (by first | omega | (simp only [decide_eq_true_eq, decide_eq_false_iff_not, Bool.or_eq_false_iff, Bool.and_eq_true, Bool.not_eq_true', Bool.not_eq_false'] at *; omega))) (hb := (by first | omega | (simp only [decide_eq_true_eq, decide_eq_false_iff_not, Bool.or_eq_false_iff, Bool.and_eq_true, Bool.not_eq_true', Bool.not_eq_false'] at *; omega))) (h := ?_)
                      refine p_goJ ?_
                      refine p_some ?_
                      refine ⟨⟨(by simp (decide := true) only [valsE, evE, upd, cv, args0, argsFrom, List.length_map, ↓reduceIte, hE] <;> rfl), (by simp (decide := true) only [valsO, updO, upd, true_and, and_true, false_and, and_false, ↓reduceIte, hE] <;> rfl)⟩, ⟨i + 1, b ++ wr x.kids[i] x.op, hlt, by rw [decide_eq_false (by omega : ¬ i + 1 = 0), ← hbs]; simp [List.append_assoc], by rw [← zS_app]; exact eV_, eV_⟩, ?_⟩
                      simp (decide := true) only [upd, e7, V.toN, ↓reduceIte]; omega
                  · have hge : ¬ i < x.kids.length := by simpa using hc17
                    rw [drop_end hi hge, wrL, List.append_nil] at hbs
                    refine p_goJ ?_
                    refine p_seq ?_
                    refine p_goJ fun hf => ?_
                    refine p_call (hx := rfl) (hb := ⟨Try.func68, by kernel_rfl, rfl⟩) (hf := withinR x.op outer) (h := ?_)
                    refine p_goJ ?_
                    refine p_splitC (s := 68) (ht := fun hc68 => ?_) (hf := fun hc68 => ?_)
                    · have hw : wrapB x.op outer = true := hc68
                      refine p_goJ fun hf => ?_
                      refine p_strAdd (hs := by simp only [zS_size, ByteArray.size_append, show (⟨#[33]⟩ : ByteArray).size = 1 from rfl, show (⟨#[40]⟩ : ByteArray).size = 1 from rfl, show (⟨#[41]⟩ : ByteArray).size = 1 from rfl]; rw [hbs]; omega) (h := ?_)
                      refine p_strAdd (hs := by simp only [zS_size, ByteArray.size_append, show (⟨#[33]⟩ : ByteArray).size = 1 from rfl, show (⟨#[40]⟩ : ByteArray).size = 1 from rfl, show (⟨#[41]⟩ : ByteArray).size = 1 from rfl]; rw [hbs]; omega) (h := ?_)
                      refine p_goJ ?_
                      refine p_ret1 (hp := by rw [wr_on hw, ← hbs, ← zS_app, ← zS_app]; try rfl)
                    · have hw : wrapB x.op outer = false := by simpa using hc68
                      refine p_goJ ?_
                      refine p_ret1 (hp := by rw [wr_off hw, ← hbs])

theorem showR (x : Rx) (hx : x.Sm) (hr : rightB x = true) (hsz : x.sz ≤ 500) : ∀ outer : Int, FnC Try.prog 39 [rxA x, iV outer] (fun r => r = .str (zS (wr x outer))) := by
  induction x using Rx.ind with
  | _ x ih =>
    have h1 := hr
    rw [rightB_eq, Bool.and_eq_true, List.all_eq_true] at h1
    have hks : ∀ k ∈ x.kids, k.sz ≤ 500 := fun k hk => by have := Rx.szL_mem hk; have := x.sz_eq; omega
    refine fun outer => show_gen x hx.len (fun ho => right_one hr ho) ?_ (fun k hk o => ?_) outer fun k hk => ih k hk (hx.kids k hk) (h1.1 k hk) (hks k hk)
    · have h2 := wr_len x hr outer
      rw [wr_eq] at h2
      simp only [List.length_append] at h2
      omega
    · have := (wr_len k (h1.1 k hk) o).2
      have := hks k hk
      omega

theorem printR (x : Rx) (hs : x.Sm) : FnC Try.prog 17 [rxA x] (fun r => r = .tup [.str (printB x), iV (errE x)]) := by
  refine FnC.of (fn := Try.f17) ⟨Try.func17, by kernel_rfl, rfl⟩ Try.ntmps17 (by simp) fun w0 S0 => ?_
  refine p_go fun hf => ?_
  refine p_call (hx := rfl) (hb := ⟨Try.func20, by kernel_rfl, rfl⟩) (hf := checkRE x hs) (h := ?_)
  refine p_go ?_
  refine p_splitC (s := 8) (ht := fun hc8 => ?_) (hf := fun hc8 => ?_)
  · have he : errE x ≠ 0 := by simpa using hc8
    refine p_go ?_
    refine p_r2 (hp := by rw [printB, if_neg he])
  · have he : errE x = 0 := by simpa using hc8
    have hxok := errE_ok.1 he
    refine p_go fun hf => ?_
    refine p_call (hx := rfl) (hb := ⟨Try.func39, by kernel_rfl, rfl⟩) (hf := showR x hs hxok.right hxok.sz 0) (h := ?_)
    refine p_go ?_
    refine p_r2 (hp := by rw [printB, if_pos he, he])

end Go.Proofs.Ytjdhkopjigijfaa
/-
  RegexForms: its law as a contract.
-/
set_option linter.unusedSimpArgs false
set_option linter.unusedVariables false
set_option maxHeartbeats 4000000
namespace Go.Proofs.Ytjdhkopjigijfaa
open Go.RowKit
attribute [local irreducible] Wk Tr
theorem nmZ_len (x : Rx) : (nmZ x).length ≤ 1000000 := by
  unfold nmZ
  split
  · rename_i h
    have h1 := tidS_len ((naG x).map bsL)
    have h2 := naG_len x
    have h3 := (errE_ok.1 h).sz
    rw [List.length_map] at h1
    omega
  · simp

theorem regexForms (x y : Rx) (hx : x.Sm) (hy : y.Sm) : FnC Try.prog 7 [rxA x, rxA y] (fun r => r = .bool true) := by
  refine FnC.of (fn := Try.f7) ⟨Try.func7, by kernel_rfl, rfl⟩ Try.ntmps7 (by simp) fun w0 S0 => ?_
  refine p_go fun hf => ?_
  refine p_call (hx := rfl) (hb := ⟨Try.func16, by kernel_rfl, rfl⟩) (hf := printP x hx) (h := ?_)
  refine p_go fun hf => ?_
  refine p_call (hx := rfl) (hb := ⟨Try.func17, by kernel_rfl, rfl⟩) (hf := printR x hx) (h := ?_)
  refine p_go fun hf => ?_
  refine p_call (hx := rfl) (hb := ⟨Try.func21, by kernel_rfl, rfl⟩) (hf := namesP x hx) (h := ?_)
  refine p_go fun hf => ?_
  refine p_call (hx := rfl) (hb := ⟨Try.func22, by kernel_rfl, rfl⟩) (hf := namesR x hx) (h := ?_)
  refine p_go fun hf => ?_
  refine p_call (hx := rfl) (hb := ⟨Try.func23, by kernel_rfl, rfl⟩) (hf := checkP x hx) (h := ?_)
  refine p_go fun hf => ?_
  refine p_call (hx := rfl) (hb := ⟨Try.func20, by kernel_rfl, rfl⟩) (hf := checkRE x hx) (h := ?_)
  refine p_go fun hf => ?_
  refine p_split (s := 38) (ht := fun hb38 => ?_) (hf := fun hb38 => ?_)
  · -- slot 38 is true
    refine p_go fun hf => ?_
    refine p_strOp (h := ?_)
    refine p_go fun hf => ?_
    refine p_split (s := 43) (ht := fun hb43 => ?_) (hf := fun hb43 => ?_)
    · -- slot 43 is true
      refine p_go fun hf => ?_
      refine p_split (s := 48) (ht := fun hb48 => ?_) (hf := fun hb48 => ?_)
      · -- slot 48 is true
        refine p_go fun hf => ?_
        refine p_call (hx := rfl) (hb := ⟨Try.func24, by kernel_rfl, rfl⟩) (hf := same_self (nmZ x) (nmZ_len x)) (h := ?_)
        refine p_go fun hf => ?_
        refine p_split (s := 53) (ht := fun hb53 => ?_) (hf := fun hb53 => ?_)
        · -- slot 53 is true
          refine p_go fun hf => ?_
          refine p_split (s := 58) (ht := fun hb58 => ?_) (hf := fun hb58 => ?_)
          · -- slot 58 is true
            refine p_go fun hf => ?_
            refine p_call (hx := rfl) (hb := ⟨Try.func25, by kernel_rfl, rfl⟩) (hf := sameP x hx y hy) (h := ?_)
            refine p_go fun hf => ?_
            refine p_call (hx := rfl) (hb := ⟨Try.func11, by kernel_rfl, rfl⟩) (hf := sameR x hx y hy) (h := ?_)
            refine p_go fun hf => ?_
            refine p_eqB (ht := Try.underlying4) (h := ?_)
            refine p_go fun hf => ?_
            refine p_split (s := 67) (ht := fun hb67 => ?_) (hf := fun hb67 => ?_)
            · -- slot 67 is true
              refine p_go fun hf => ?_
              refine p_call (hx := rfl) (hb := ⟨Try.func25, by kernel_rfl, rfl⟩) (hf := sameP x hx x hx) (h := ?_)
              refine p_go fun hf => ?_
              refine p_split (s := 72) (ht := fun hb72 => ?_) (hf := fun hb72 => ?_)
              · -- slot 72 is true
                refine p_go fun hf => ?_
                refine p_call (hx := rfl) (hb := ⟨Try.func12, by kernel_rfl, rfl⟩) (hf := alive07) (h := ?_)
                refine p_go ?_
                refine p_ret1 (hp := by rfl)
              · exact absurd hb72 (by rw [eqB_self]; simp)
            · exact absurd hb67 (by simp)
          · exact absurd hb58 (by simp)
        · exact absurd hb53 (by simp)
      · exact absurd hb48 (by simp)
    · exact absurd hb43 (by simp)
  · exact absurd hb38 (by simp)
end Go.Proofs.Ytjdhkopjigijfaa
