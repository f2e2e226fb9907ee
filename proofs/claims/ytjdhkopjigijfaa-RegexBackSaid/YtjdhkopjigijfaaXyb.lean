import Derived.Test.YtjdhkopjigijfaaXwx
import Derived.Test.YtjdhkopjigijfaaXrs
/-
  Same of the program; the printed text of the reference.
-/
set_option linter.unusedSimpArgs false
set_option linter.unusedVariables false
set_option maxHeartbeats 4000000
namespace Go.Proofs.Ytjdhkopjigijfaa
open Go.RowKit
attribute [local irreducible] Wk Tr
theorem eqB_op {x y : Rx} (h : x.op ≠ y.op) : eqB x y = false := eqB_false fun e => h (by rw [e])
theorem eqB_name {x y : Rx} (h : x.name ≠ y.name) : eqB x y = false := eqB_false fun e => h (by rw [e])
/-- Are two rows of expressions alike? -/
noncomputable def eqL (a b : List Rx) : Bool := @decide (a = b) (Classical.propDecidable _)
theorem eqL_true {a b : List Rx} : eqL a b = true ↔ a = b := by unfold eqL; exact @decide_eq_true_iff _ (Classical.propDecidable _)
theorem eqL_false {a b : List Rx} (h : a ≠ b) : eqL a b = false := by
  cases hb : eqL a b with
  | false => rfl
  | true => exact absurd (eqL_true.1 hb) h
theorem eqB_kids {x y : Rx} (h1 : x.op = y.op) (h2 : x.name = y.name) : eqB x y = eqL x.kids y.kids := by
  by_cases h : x.kids = y.kids
  · rw [eqL_true.2 h, eqB_true]; exact rx_ext h1 h2 h
  · rw [eqL_false h]; exact eqB_false fun e => h (by rw [e])

theorem equalFunc_rx (a b : List Rx) (ha : a.length ≤ 17592186044416) (hb : b.length ≤ 17592186044416) (fid : FuncId) (fn : Func) (code : Code) (hbd : HasBody Try.prog fid fn code) (hp : ∀ x ∈ a, ∀ y ∈ b, FnC Try.prog fid [rxA x, rxA y] (fun r => r = .bool (eqB x y))) : FnC Try.prog 50 [.sl 25 (a.map rxV), .sl 25 (b.map rxV), .fn fid []] (fun r => r = .bool (eqL a b)) := by
  refine FnC.of (fn := Try.f50) ⟨Try.func50, by kernel_rfl, rfl⟩ Try.ntmps50 (by simp) fun w0 S0 => ?_
  refine p_go ?_
  refine p_splitC (s := 14) (ht := fun hc14 => ?_) (hf := fun hc14 => ?_)
  · have hle : a.length ≠ b.length := by have := hc14; simp at this; omega
    have hne : a ≠ b := fun h => hle (by rw [h])
    refine p_go ?_
    refine p_ret1 (hp := by rw [eqL_false hne])
  · have hle : a.length = b.length := (by have := hc14; simp at this; omega)
    refine p_go ?_
    refine p_loopK [1, 2, 15, 16] [] (fun st => ∃ i : Nat, (i ≤ a.length) ∧ (∀ j (hj : j < a.length) (hj2 : j < b.length), j < i → a[j] = b[j]) ∧ st.env 17 = inV i) (fun st => a.length - (st.env 17).toN) ?_ fun e ob g1 hK hO hI => ?_
    · exact ⟨0, by omega, fun _ _ _ h => by omega, eV_⟩
    · obtain ⟨i, hi, hall, e17⟩ := hI
      dsimp only at e17
      simp only [valsE, List.cons.injEq, and_true] at hK
      simp only [valsO, List.cons.injEq, and_true] at hO
      have hE := (⟨hK, hO, e17⟩ : _ ∧ _ ∧ _)
      refine p_go ?_
      refine p_splitC (s := 18) (ht := fun hc18 => ?_) (hf := fun hc18 => ?_)
      · have hlt : i < a.length := by simpa using hc18
        have hlt2 : i < b.length := by omega
        refine p_go fun hf => ?_
        refine p_idxMap (j := i) (ht := Try.underlying23) (hi := F.ti25.h) (hij := rfl) (hj := hlt) (h := ?_)
        rw [rxV_cells]
        refine p_go fun hf => ?_
        refine p_idxMap (j := i) (ht := Try.underlying23) (hi := F.ti25.h) (hij := rfl) (hj := hlt2) (h := ?_)
        rw [rxV_cells]
        refine p_go fun hf => ?_
        refine p_call (hb := hbd) (hf := hp a[i] (List.getElem_mem hlt) b[i] (List.getElem_mem hlt2)) (h := ?_)
        refine p_go ?_
        refine p_splitC (s := 30) (ht := fun hc30 => ?_) (hf := fun hc30 => ?_)
        · have hd : eqB a[i] b[i] = false := by simpa using hc30
          have hne : a ≠ b := fun h => by subst h; rw [eqB_self] at hd; cases hd
          refine p_go ?_
          refine p_ret1 (hp := by rw [eqL_false hne])
        · have hd : a[i] = b[i] := eqB_true.1 (by simpa using hc30)
          refine p_go fun hf => ?_
          refine p_add (r := ((i + 1 : Nat) : Int)) (hr := (by first | omega | (simp only [decide_eq_true_eq, decide_eq_false_iff_not, Bool.or_eq_false_iff, Bool.and_eq_true, Bool.not_eq_true', Bool.not_eq_false'] at *; omega))) (hb := (by first | omega | (simp only [decide_eq_true_eq, decide_eq_false_iff_not, Bool.or_eq_false_iff, Bool.and_eq_true, Bool.not_eq_true', Bool.not_eq_false'] at *; omega))) (h := ?_)
          refine p_go ?_
          refine p_some ?_
          refine ⟨⟨(by simp (decide := true) only [valsE, evE, upd, cv, args0, argsFrom, List.length_map, ↓reduceIte, hE] <;> rfl), (by simp (decide := true) only [valsO, updO, upd, true_and, and_true, false_and, and_false, ↓reduceIte, hE] <;> rfl)⟩, ⟨i + 1, hlt, fun j hj hj2 h => (Nat.lt_succ_iff_lt_or_eq.1 h).elim (hall j hj hj2) (fun h => by subst h; exact hd), eV_⟩, ?_⟩
          simp (decide := true) only [upd, e17, V.toN, ↓reduceIte]; omega
      · have hge : a.length ≤ i := by simpa using hc18
        have heq : a = b := List.ext_getElem hle fun j hj hj2 => hall j hj hj2 (by omega)
        refine p_go ?_
        refine p_ret1 (hp := by rw [eqL_true.2 heq])

theorem sameP_gen (x y : Rx) (hx : x.kids.length ≤ 17592186044416) (hy : y.kids.length ≤ 17592186044416) (hrec : ∀ k ∈ x.kids, ∀ m ∈ y.kids, FnC Try.prog 25 [rxA k, rxA m] (fun r => r = .bool (eqB k m))) : FnC Try.prog 25 [rxA x, rxA y] (fun r => r = .bool (eqB x y)) := by
  refine FnC.of (fn := Try.f25) ⟨Try.func25, by kernel_rfl, rfl⟩ Try.ntmps25 (by simp) fun w0 S0 => ?_
  refine p_go fun hf => ?_
  refine p_split (s := 10) (ht := fun hb10 => ?_) (hf := fun hb10 => ?_)
  · have h1 : x.op = y.op := by simpa using hb10
    refine p_go fun hf => ?_
    refine p_strOp (h := ?_)
    refine p_go fun hf => ?_
    refine p_split (s := 17) (ht := fun hb17 => ?_) (hf := fun hb17 => ?_)
    · have h2 : x.name = y.name := by simpa using hb17
      refine p_go fun hf => ?_
      refine p_call (hx := rfl) (hb := ⟨Try.func50, by kernel_rfl, rfl⟩) (hf := equalFunc_rx x.kids y.kids hx hy _ _ _ ⟨Try.func25, by kernel_rfl, rfl⟩ hrec) (h := ?_)
      refine p_go ?_
      refine p_ret1 (hp := by rw [eqB_kids h1 h2])
    · have h2 : x.name ≠ y.name := by simpa using hb17
      refine p_go ?_
      refine p_ret1 (hp := by rw [eqB_name h2])
  · have h1 : x.op ≠ y.op := by simpa using hb10
    refine p_go ?_
    refine p_ret1 (hp := by rw [eqB_op h1])

theorem sameP (x : Rx) (hx : x.Sm) : ∀ y : Rx, y.Sm → FnC Try.prog 25 [rxA x, rxA y] (fun r => r = .bool (eqB x y)) := by
  induction x using Rx.ind with
  | _ x ih => exact fun y hy => sameP_gen x y hx.len hy.len fun k hk m hm => ih k hk (hx.kids k hk) m (hy.kids m hm)
abbrev zS (z : List UInt8) : ByteArray := ⟨z.toArray⟩
theorem zS_app (a b : List UInt8) : zS a ++ zS b = zS (a ++ b) := by
  apply ByteArray.ext
  simp [zS, ByteArray.data_append]
theorem zS_size (a : List UInt8) : (zS a).size = a.length := by simp [zS, ByteArray.size]
theorem zS_of (s : ByteArray) : zS s.data.toList = s := by obtain ⟨⟨l⟩⟩ := s; rfl

theorem withinR (op outer : Int) : FnC Try.prog 68 [iV op, iV outer] (fun r => r = .bool (wrapB op outer)) := by
  refine FnC.of (fn := Try.f68) ⟨Try.func68, by kernel_rfl, rfl⟩ Try.ntmps68 (by simp) fun w0 S0 => ?_
  refine p_go ?_
  refine p_splitC (s := 6) (ht := fun hc6 => ?_) (hf := fun hc6 => ?_)
  · have h6 : op = 6 := by simpa using hc6
    refine p_go ?_
    refine p_ret1 (hp := by rw [wrapB]; simp [h6])
  · have h6 : ¬ op = 6 := by simpa using hc6
    refine p_go ?_
    refine p_splitC (s := 10) (ht := fun hc10 => ?_) (hf := fun hc10 => ?_)
    · have h10 : op = 5 := by simpa using hc10
      refine p_go ?_
      refine p_ret1 (hp := by rw [wrapB]; simp [h10])
    · have h10 : ¬ op = 5 := by simpa using hc10
      refine p_go ?_
      refine p_splitC (s := 18) (ht := fun hc18 => ?_) (hf := fun hc18 => ?_)
      · have h18 : op = 8 := by simpa using hc18
        refine p_go ?_
        refine p_ret1 (hp := by rw [wrapB]; simp [h18])
      · have h18 : ¬ op = 8 := by simpa using hc18
        refine p_go ?_
        refine p_ret1 (hp := by rw [wrapB]; simp [h6, h10, h18])

theorem show_gen (x : Rx) (hs : x.kids.length ≤ 17592186044416) (hk : x.op = 7 ∨ x.op = 8 → 0 < x.kids.length) (hb : (wrI x).length ≤ 100000) (hkl : ∀ k ∈ x.kids, ∀ o, (wr k o).length ≤ 100000) (outer : Int) (hrec : ∀ k ∈ x.kids, ∀ outer : Int, FnC Try.prog 39 [rxA k, iV outer] (fun r => r = .str (zS (wr k outer)))) : FnC Try.prog 39 [rxA x, iV outer] (fun r => r = .str (zS (wr x outer))) := by
  refine FnC.of (fn := Try.f39) ⟨Try.func39, by kernel_rfl, rfl⟩ Try.ntmps39 (by simp) fun w0 S0 => ?_
  refine p_goJ ?_
  refine p_seq ?_
  refine p_goJ ?_
  refine p_splitC (s := 35) (ht := fun hc35 => ?_) (hf := fun hc35 => ?_)
  · have h35 : x.op = 1 := by simpa using hc35
    have hI : wrI x = x.name.data.toList := by rw [wrI, if_pos h35]
    have hoff : wr x outer = wrI x := wr_off (by rw [wrapB, h35]; simp)
    refine p_goJ ?_
    refine p_ret1 (hp := by rw [hoff, hI, zS_of])
  · have h35 : ¬ x.op = 1 := by simpa using hc35
    refine p_goJ ?_
    refine p_splitC (s := 39) (ht := fun hc39 => ?_) (hf := fun hc39 => ?_)
    · have h39 : x.op = 2 := by simpa using hc39
      have hI : wrI x = [46] := by rw [wrI, if_neg h35, if_pos h39]
      have hoff : wr x outer = wrI x := wr_off (by rw [wrapB, h39]; simp)
      refine p_goJ ?_
      refine p_ret1 (hp := by rw [hoff, hI])
    · have h39 : ¬ x.op = 2 := by simpa using hc39
      refine p_goJ ?_
      refine p_splitC (s := 41) (ht := fun hc41 => ?_) (hf := fun hc41 => ?_)
      · have h41 : x.op = 3 := by simpa using hc41
        have hI : wrI x = [37] := by rw [wrI, if_neg h35, if_neg h39, if_pos h41]
        have hoff : wr x outer = wrI x := wr_off (by rw [wrapB, h41]; simp)
        refine p_goJ ?_
        refine p_ret1 (hp := by rw [hoff, hI])
      · have h41 : ¬ x.op = 3 := by simpa using hc41
        refine p_goJ ?_
        refine p_splitC (s := 43) (ht := fun hc43 => ?_) (hf := fun hc43 => ?_)
        · have h43 : x.op = 4 := by simpa using hc43
          have hI : wrI x = [35] := by rw [wrI, if_neg h35, if_neg h39, if_neg h41, if_pos h43]
          have hoff : wr x outer = wrI x := wr_off (by rw [wrapB, h43]; simp)
          refine p_goJ ?_
          refine p_ret1 (hp := by rw [hoff, hI])
        · have h43 : ¬ x.op = 4 := by simpa using hc43
          refine p_goJ ?_
          refine p_splitC (s := 45) (ht := fun hc45 => ?_) (hf := fun hc45 => ?_)
          · have h45 : x.op = 7 := by simpa using hc45
            have hlt : 0 < x.kids.length := hk (by omega)
            have hle := hkl _ (List.getElem_mem hlt) 7
            have hI : wrI x = wr x.kids[0] 7 ++ [42] := by rw [wrI, if_neg h35, if_neg h39, if_neg h41, if_neg h43, if_pos h45, wrH_at hlt]
            have hoff : wr x outer = wrI x := wr_off (by rw [wrapB, h45]; simp)
            refine p_goJ fun hf => ?_
            refine p_idxMap (j := 0) (ht := Try.underlying23) (hi := F.ti25.h) (hij := rfl) (hj := hlt) (h := ?_)
            rw [rxV_cells]
            refine p_goJ fun hf => ?_
            refine p_call (hx := rfl) (hb := ⟨Try.func39, by kernel_rfl, rfl⟩) (hf := hrec x.kids[0] (List.getElem_mem hlt) x.op) (h := ?_)
            refine p_strAdd (hs := by have := hkl _ (List.getElem_mem hlt) x.op; rw [zS_size, show (⟨#[42]⟩ : ByteArray).size = 1 from rfl]; omega) (h := ?_)
            refine p_goJ ?_
            refine p_ret1 (hp := by rw [hoff, hI, ← zS_app, h45]; try rfl)
          · have h45 : ¬ x.op = 7 := by simpa using hc45
            refine p_goJ ?_
            refine p_splitC (s := 55) (ht := fun hc55 => ?_) (hf := fun hc55 => ?_)
            · have h55 : x.op = 8 := by simpa using hc55
              have hlt : 0 < x.kids.length := hk (by omega)
              have hle := hkl _ (List.getElem_mem hlt) 8
              have hI : wrI x = ([33] : List UInt8) ++ wr x.kids[0] 8 := by rw [wrI, if_neg h35, if_neg h39, if_neg h41, if_neg h43, if_neg h45, if_pos h55, wrH_at hlt]
              refine p_goJ fun hf => ?_
              refine p_idxMap (j := 0) (ht := Try.underlying23) (hi := F.ti25.h) (hij := rfl) (hj := hlt) (h := ?_)
              rw [rxV_cells]
              refine p_goJ fun hf => ?_
              refine p_call (hx := rfl) (hb := ⟨Try.func39, by kernel_rfl, rfl⟩) (hf := hrec x.kids[0] (List.getElem_mem hlt) x.op) (h := ?_)
              refine p_strAdd (hs := by have := hkl _ (List.getElem_mem hlt) x.op; show 1 + (zS (wr x.kids[0] x.op)).size ≤ 9223372036854775807; rw [zS_size]; omega) (h := ?_)
              refine p_goJ ?_
              refine p_seq ?_
              refine p_goJ fun hf => ?_
              refine p_call (hx := rfl) (hb := ⟨Try.func68, by kernel_rfl, rfl⟩) (hf := withinR x.op outer) (h := ?_)
              refine p_goJ ?_
              refine p_splitC (s := 68) (ht := fun hc68 => ?_) (hf := fun hc68 => ?_)
              · have hw : wrapB x.op outer = true := hc68
                refine p_goJ fun hf => ?_
                refine p_strAdd (hs := by simp only [zS_size, ByteArray.size_append, show (⟨#[33]⟩ : ByteArray).size = 1 from rfl, show (⟨#[40]⟩ : ByteArray).size = 1 from rfl, show (⟨#[41]⟩ : ByteArray).size = 1 from rfl]; have := hkl _ (List.getElem_mem hlt) x.op; omega) (h := ?_)
                refine p_strAdd (hs := by simp only [zS_size, ByteArray.size_append, show (⟨#[33]⟩ : ByteArray).size = 1 from rfl, show (⟨#[40]⟩ : ByteArray).size = 1 from rfl, show (⟨#[41]⟩ : ByteArray).size = 1 from rfl]; have := hkl _ (List.getElem_mem hlt) x.op; omega) (h := ?_)
                refine p_goJ ?_
                refine p_ret1 (hp := by rw [wr_on hw, hI, h55, ← zS_app, ← zS_app, ← zS_app]; try rfl)
              · have hw : wrapB x.op outer = false := by simpa using hc68
                refine p_goJ ?_
                refine p_ret1 (hp := by rw [wr_off hw, hI, h55, ← zS_app]; try rfl)
            · have h55 : ¬ x.op = 8 := by simpa using hc55
              have hI : wrI x = wrL x.kids x.op true := by rw [wrI, if_neg h35, if_neg h39, if_neg h41, if_neg h43, if_neg h45, if_neg h55]
              refine p_goJ ?_
              refine p_joinK [1, 2, 5] [(0 + 1, 2)] (fun st => (True) ∧ st.env 6 = .str (sepB x.op)) ?_ fun e ob gS3 hK hO hI => ?_
              ·
                refine p_goJ ?_
                refine p_splitC (s := 12) (ht := fun hc12 => ?_) (hf := fun hc12 => ?_)
                · have h12 : x.op = 6 := by simpa using hc12
                  refine p_goJ ?_
                  refine p_some ?_
                  refine ⟨⟨(by simp (decide := true) only [valsE, evE, upd, cv, args0, argsFrom, List.length_map, ↓reduceIte, hE] <;> rfl), (by simp (decide := true) only [valsO, updO, upd, true_and, and_true, false_and, and_false, ↓reduceIte, hE] <;> rfl)⟩, trivial, by rw [sepB]; simp_all [upd]⟩
                · have h12 : ¬ x.op = 6 := by simpa using hc12
                  refine p_goJ ?_
                  refine p_some ?_
                  refine ⟨⟨(by simp (decide := true) only [valsE, evE, upd, cv, args0, argsFrom, List.length_map, ↓reduceIte, hE] <;> rfl), (by simp (decide := true) only [valsO, updO, upd, true_and, and_true, false_and, and_false, ↓reduceIte, hE] <;> rfl)⟩, trivial, by rw [sepB]; simp_all [upd]⟩
              · obtain ⟨hz, e6⟩ := hI
                dsimp only at e6
                simp only [valsE, List.cons.injEq, and_true] at hK
                simp only [valsO, List.cons.injEq, and_true] at hO
                have hE := (⟨hK, hO, e6⟩ : _ ∧ _ ∧ _)
                refine p_goJ ?_
                refine p_loopK [1, 2, 6] [(0 + 1, 2)] (fun st => ∃ (i : Nat) (b : List UInt8), (i ≤ x.kids.length) ∧ (b ++ wrL (x.kids.drop i) x.op (decide (i = 0)) = wrI x) ∧ st.env 5 = .str (zS b) ∧ st.env 7 = inV i) (fun st => x.kids.length - (st.env 7).toN) ?_ fun e ob g1 hK hO hI => ?_
                · exact ⟨0, [], by omega, by rw [hI]; rfl, eV_, eV_⟩
                · obtain ⟨i, b, hi, hbs, e5, e7⟩ := hI
                  dsimp only at e5 e7
                  simp only [valsE, List.cons.injEq, and_true] at hK
                  simp only [valsO, List.cons.injEq, and_true] at hO
                  have hE := (⟨hK, hO, e5, e7⟩ : _ ∧ _ ∧ _ ∧ _)
                  refine p_seq ?_
                  refine p_goJ ?_
                  refine p_splitC (s := 17) (ht := fun hc17 => ?_) (hf := fun hc17 => ?_)
                  · have hlt : i < x.kids.length := by simpa using hc17
                    have hdr := drop_at hlt
                    have hlen := congrArg List.length hbs
                    rw [hdr, wrL] at hlen
                    simp only [List.length_append] at hlen
                    rw [hdr, wrL] at hbs
                    have hsz : (sepB x.op).data.toList.length = (sepB x.op).size := by rw [Array.length_toList]; rfl
                    have hsl : (sepB x.op).size ≤ 3 := by unfold sepB; split <;> decide
                    refine p_goJ ?_
                    refine p_seq ?_
                    refine p_goJ ?_
                    refine p_seq ?_
                    refine p_goJ ?_
                    refine p_splitC (s := 21) (ht := fun hc21 => ?_) (hf := fun hc21 => ?_)
                    · have h0 : ¬ i = 0 := by simp at hc21; omega
                      rw [decide_eq_false h0] at hbs hlen
                      simp only [Bool.false_eq_true, if_false, hsz] at hlen hbs
                      refine p_goJ fun hf => ?_
                      refine p_strAdd (hs := by rw [zS_size]; omega) (h := ?_)
                      refine p_goJ fun hf => ?_
                      refine p_idxMap (j := i) (ht := Try.underlying23) (hi := F.ti25.h) (hij := rfl) (hj := hlt) (h := ?_)
                      rw [rxV_cells]
                      refine p_goJ fun hf => ?_
                      refine p_call (hx := rfl) (hb := ⟨Try.func39, by kernel_rfl, rfl⟩) (hf := hrec x.kids[i] (List.getElem_mem hlt) x.op) (h := ?_)
                      refine p_strAdd (hs := by simp only [zS_size, ByteArray.size_append]; omega) (h := ?_)
                      refine p_goJ fun hf => ?_
                      refine p_add (r := ((i + 1 : Nat) : Int)) (hr := (by first | omega | (simp only [decide_eq_true_eq, decide_eq_false_iff_not, Bool.or_eq_false_iff, Bool.and_eq_true, Bool.not_eq_true', Bool.not_eq_false'] at *; omega))) (hb := (by first | omega | (simp only [decide_eq_true_eq, decide_eq_false_iff_not, Bool.or_eq_false_iff, Bool.and_eq_true, Bool.not_eq_true', Bool.not_eq_false'] at *; omega))) (h := ?_)
                      refine p_goJ ?_
                      refine p_some ?_
                      refine ⟨⟨(by simp (decide := true) only [valsE, evE, upd, cv, args0, argsFrom, List.length_map, ↓reduceIte, hE] <;> rfl), (by simp (decide := true) only [valsO, updO, upd, true_and, and_true, false_and, and_false, ↓reduceIte, hE] <;> rfl)⟩, ⟨i + 1, b ++ (sepB x.op).data.toList ++ wr x.kids[i] x.op, hlt, by rw [decide_eq_false (by omega : ¬ i + 1 = 0), ← hbs]; simp [List.append_assoc], by rw [← zS_app, ← zS_app, zS_of]; exact eV_, eV_⟩, ?_⟩
                      simp (decide := true) only [upd, e7, V.toN, ↓reduceIte]; omega
                    · have h0 : i = 0 := by simp at hc21; omega
                      rw [decide_eq_true h0] at hbs hlen
                      simp only [if_true, List.nil_append, List.length_nil] at hlen hbs
                      refine p_goJ fun hf => ?_
                      refine p_idxMap (j := i) (ht := Try.underlying23) (hi := F.ti25.h) (hij := rfl) (hj := hlt) (h := ?_)
                      rw [rxV_cells]
                      refine p_goJ fun hf => ?_
                      refine p_call (hx := rfl) (hb := ⟨Try.func39, by kernel_rfl, rfl⟩) (hf := hrec x.kids[i] (List.getElem_mem hlt) x.op) (h := ?_)
                      refine p_strAdd (hs := by simp only [zS_size, ByteArray.size_append]; omega) (h := ?_)
                      refine p_goJ fun hf => ?_
                      refine p_add (r := ((i + 1 : Nat) : Int)) (hr := (by first | omega | (simp only [decide_eq_true_eq, decide_eq_false_iff_not, Bool.or_eq_false_iff, Bool.and_eq_true, Bool.not_eq_true', Bool.not_eq_false'] at *; omega))) (hb := (by first | omega | (simp only [decide_eq_true_eq, decide_eq_false_iff_not, Bool.or_eq_false_iff, Bool.and_eq_true, Bool.not_eq_true', Bool.not_eq_false'] at *; omega))) (h := ?_)
                      refine p_goJ ?_
                      refine p_some ?_
                      refine ⟨⟨(by simp (decide := true) only [valsE, evE, upd, cv, args0, argsFrom, List.length_map, ↓reduceIte, hE] <;> rfl), (by simp (decide := true) only [valsO, updO, upd, true_and, and_true, false_and, and_false, ↓reduceIte, hE] <;> rfl)⟩, ⟨i + 1, b ++ wr x.kids[i] x.op, hlt, by rw [decide_eq_false (by omega : ¬ i + 1 = 0), ← hbs]; simp [List.append_assoc], by rw [← zS_app]; exact eV_, eV_⟩, ?_⟩
                      simp (decide := true) only [upd, e7, V.toN, ↓reduceIte]; omega
                  · have hge : ¬ i < x.kids.length := by simpa using hc17
                    rw [drop_end hi hge, wrL, List.append_nil] at hbs
                    refine p_goJ ?_
                    refine p_seq ?_
                    refine p_goJ fun hf => ?_
                    refine p_call (hx := rfl) (hb := ⟨Try.func68, by kernel_rfl, rfl⟩) (hf := withinR x.op outer) (h := ?_)
                    refine p_goJ ?_
                    refine p_splitC (s := 68) (ht := fun hc68 => ?_) (hf := fun hc68 => ?_)
                    · have hw : wrapB x.op outer = true := hc68
                      refine p_goJ fun hf => ?_
                      refine p_strAdd (hs := by simp only [zS_size, ByteArray.size_append, show (⟨#[33]⟩ : ByteArray).size = 1 from rfl, show (⟨#[40]⟩ : ByteArray).size = 1 from rfl, show (⟨#[41]⟩ : ByteArray).size = 1 from rfl]; rw [hbs]; omega) (h := ?_)
                      refine p_strAdd (hs := by simp only [zS_size, ByteArray.size_append, show (⟨#[33]⟩ : ByteArray).size = 1 from rfl, show (⟨#[40]⟩ : ByteArray).size = 1 from rfl, show (⟨#[41]⟩ : ByteArray).size = 1 from rfl]; rw [hbs]; omega) (h := ?_)
                      refine p_goJ ?_
                      refine p_ret1 (hp := by rw [wr_on hw, ← hbs, ← zS_app, ← zS_app]; try rfl)
                    · have hw : wrapB x.op outer = false := by simpa using hc68
                      refine p_goJ ?_
                      refine p_ret1 (hp := by rw [wr_off hw, ← hbs])

theorem showR (x : Rx) (hx : x.Sm) (hr : rightB x = true) (hsz : x.sz ≤ 500) : ∀ outer : Int, FnC Try.prog 39 [rxA x, iV outer] (fun r => r = .str (zS (wr x outer))) := by
  induction x using Rx.ind with
  | _ x ih =>
    have h1 := hr
    rw [rightB_eq, Bool.and_eq_true, List.all_eq_true] at h1
    have hks : ∀ k ∈ x.kids, k.sz ≤ 500 := fun k hk => by have := Rx.szL_mem hk; have := x.sz_eq; omega
    refine fun outer => show_gen x hx.len (fun ho => right_one hr ho) ?_ (fun k hk o => ?_) outer fun k hk => ih k hk (hx.kids k hk) (h1.1 k hk) (hks k hk)
    · have h2 := wr_len x hr outer
      rw [wr_eq] at h2
      simp only [List.length_append] at h2
      omega
    · have := (wr_len k (h1.1 k hk) o).2
      have := hks k hk
      omega

theorem printR (x : Rx) (hs : x.Sm) : FnC Try.prog 17 [rxA x] (fun r => r = .tup [.str (printB x), iV (errE x)]) := by
  refine FnC.of (fn := Try.f17) ⟨Try.func17, by kernel_rfl, rfl⟩ Try.ntmps17 (by simp) fun w0 S0 => ?_
  refine p_go fun hf => ?_
  refine p_call (hx := rfl) (hb := ⟨Try.func20, by kernel_rfl, rfl⟩) (hf := checkRE x hs) (h := ?_)
  refine p_go ?_
  refine p_splitC (s := 8) (ht := fun hc8 => ?_) (hf := fun hc8 => ?_)
  · have he : errE x ≠ 0 := by simpa using hc8
    refine p_go ?_
    refine p_r2 (hp := by rw [printB, if_neg he])
  · have he : errE x = 0 := by simpa using hc8
    have hxok := errE_ok.1 he
    refine p_go fun hf => ?_
    refine p_call (hx := rfl) (hb := ⟨Try.func39, by kernel_rfl, rfl⟩) (hf := showR x hs hxok.right hxok.sz 0) (h := ?_)
    refine p_go ?_
    refine p_r2 (hp := by rw [printB, if_pos he, he])

end Go.Proofs.Ytjdhkopjigijfaa
/-
  What is printed means the same, in plain words.
-/
set_option maxHeartbeats 4000000
set_option linter.unusedSimpArgs false
set_option linter.unusedVariables false
namespace Go.Proofs.Ytjdhkopjigijfaa
open Go.RowKit
attribute [local irreducible] Wk Tr
/-- A text stands at a place. -/
def TA (s : ByteArray) (i : Nat) (t : List UInt8) : Prop := ∃ r, s.data.toList.drop i = t ++ r
theorem size_list (s : ByteArray) : s.size = s.data.toList.length := by rw [Array.length_toList]; rfl
theorem bt_list {s : ByteArray} {i : Nat} {c : UInt8} (h : s.data.toList[i]? = some c) : i < s.size ∧ bt s i = (c.toNat : Int) := by
  obtain ⟨hi, he⟩ := List.getElem?_eq_some_iff.1 h
  have hlt : i < s.size := by rw [size_list]; exact hi
  refine ⟨hlt, ?_⟩
  rw [bt_lt hlt]
  have : s[i] = c := by
    rw [← he, Array.getElem_toList]; rfl
  rw [this]
theorem TA.left {s : ByteArray} {i : Nat} {a b : List UInt8} (h : TA s i (a ++ b)) : TA s i a := by
  obtain ⟨r, h⟩ := h
  exact ⟨b ++ r, by rw [h, List.append_assoc]⟩
theorem TA.right {s : ByteArray} {i : Nat} {a b : List UInt8} (h : TA s i (a ++ b)) : TA s (i + a.length) b := by
  obtain ⟨r, h⟩ := h
  refine ⟨r, ?_⟩
  rw [← List.drop_drop, h, List.append_assoc, List.drop_left' rfl]
theorem TA.join {s : ByteArray} {i : Nat} {a b : List UInt8} (h : TA s i a) (h2 : TA s (i + a.length) b) : TA s i (a ++ b) := by
  obtain ⟨r, h⟩ := h
  obtain ⟨r2, h2⟩ := h2
  rw [← List.drop_drop, h, List.drop_left' rfl] at h2
  exact ⟨r2, by rw [h, h2, List.append_assoc]⟩
theorem TA.at {s : ByteArray} {i : Nat} {t : List UInt8} (h : TA s i t) {j : Nat} (hj : j < t.length) : i + j < s.size ∧ bt s (i + j) = (t[j].toNat : Int) := by
  obtain ⟨r, h⟩ := h
  refine bt_list ?_
  rw [← List.getElem?_drop, h, List.getElem?_append_left hj, List.getElem?_eq_getElem hj]
theorem TA.hd {s : ByteArray} {i : Nat} {c : UInt8} {t : List UInt8} (h : TA s i (c :: t)) : i < s.size ∧ bt s i = (c.toNat : Int) := by
  have := h.at (j := 0) (by simp)
  simpa using this
theorem TA.tl {s : ByteArray} {i : Nat} {c : UInt8} {t : List UInt8} (h : TA s i (c :: t)) : TA s (i + 1) t := TA.right (a := [c]) h
theorem TA.le {s : ByteArray} {i : Nat} {t : List UInt8} (h : TA s i t) (ht : t ≠ []) : i + t.length ≤ s.size := by
  have hp : 0 < t.length := List.length_pos_iff.2 ht
  have := (h.at (j := t.length - 1) (by omega)).1
  omega
/-- A byte that a part of a row begins with. -/
def hdC (c : UInt8) : Bool := letB c.toNat || isSg c.toNat
theorem hdC_ne {c : UInt8} (h : hdC c = true) : (c.toNat : Int) ≠ 0 ∧ isBl c.toNat = false ∧ (c.toNat : Int) ≠ 42 ∧ (c.toNat : Int) ≠ 124 := by
  unfold hdC letB isSg at h
  unfold isBl
  simp only [Bool.or_eq_true, Bool.and_eq_true, decide_eq_true_eq] at h
  refine ⟨by omega, ?_, by omega, by omega⟩
  simp only [Bool.or_eq_false_iff, decide_eq_false_iff_not]
  omega
/-- What stands at a place begins a part of a row. -/
theorem TA.head {s : ByteArray} {i : Nat} {c : UInt8} {t : List UInt8} (h : TA s i (c :: t)) (hc : hdC c = true) : bl s i = i ∧ bgB s i = true ∧ tkB s i 42 = false ∧ tkB s i 124 = false := by
  obtain ⟨h1, h2⟩ := h.hd
  obtain ⟨h3, h4, h5, h6⟩ := hdC_ne hc
  refine ⟨bl_stop (fun h => by rw [h2, h4] at h; exact absurd h.2 (by decide)), ?_, tkB_nbt (by rw [h2]; exact h5), tkB_nbt (by rw [h2]; exact h6)⟩
  rw [bgB, h2, decide_eq_true h3, Bool.true_and]
  exact hc
theorem wrap_zero (op : Int) : wrapB op 0 = false := by unfold wrapB; simp
theorem wr_zero (x : Rx) : wr x 0 = wrI x := wr_off (wrap_zero _)
theorem wrI_1 {x : Rx} (h : x.op = 1) : wrI x = x.name.data.toList := by rw [wrI, if_pos h]
theorem wrI_2 {x : Rx} (h : x.op = 2) : wrI x = [46] := by rw [wrI, if_neg (by omega), if_pos h]
theorem wrI_3 {x : Rx} (h : x.op = 3) : wrI x = [37] := by rw [wrI, if_neg (by omega), if_neg (by omega), if_pos h]
theorem wrI_4 {x : Rx} (h : x.op = 4) : wrI x = [35] := by rw [wrI, if_neg (by omega), if_neg (by omega), if_neg (by omega), if_pos h]
theorem wrI_7 {x : Rx} (h : x.op = 7) (hk : 0 < x.kids.length) : wrI x = wr x.kids[0] 7 ++ [42] := by rw [wrI, if_neg (by omega), if_neg (by omega), if_neg (by omega), if_neg (by omega), if_pos h, wrH_at hk]
theorem wrI_8 {x : Rx} (h : x.op = 8) (hk : 0 < x.kids.length) : wrI x = 33 :: wr x.kids[0] 8 := by rw [wrI, if_neg (by omega), if_neg (by omega), if_neg (by omega), if_neg (by omega), if_neg (by omega), if_pos h, wrH_at hk]; rfl
theorem wrI_L {x : Rx} (h : x.op = 5 ∨ x.op = 6) : wrI x = wrL x.kids x.op true := by rw [wrI, if_neg (by omega), if_neg (by omega), if_neg (by omega), if_neg (by omega), if_neg (by omega), if_neg (by omega)]
theorem right_op {x : Rx} (h : rightB x = true) : x.op = 1 ∨ x.op = 2 ∨ x.op = 3 ∨ x.op = 4 ∨ x.op = 7 ∨ x.op = 8 ∨ x.op = 5 ∨ x.op = 6 := by
  by_cases h1 : x.op ≠ 1 ∧ x.op ≠ 2 ∧ x.op ≠ 3 ∧ x.op ≠ 4 ∧ x.op ≠ 7 ∧ x.op ≠ 8 ∧ x.op ≠ 5 ∧ x.op ≠ 6
  · rw [r_none h1] at h; cases h
  · omega
theorem right_kids {x : Rx} (h : rightB x = true) : ∀ k ∈ x.kids, rightB k = true := by
  rw [rightB_eq, Bool.and_eq_true, List.all_eq_true] at h; exact h.1
theorem right_many {x : Rx} (h : rightB x = true) (ho : x.op = 5 ∨ x.op = 6) : (∀ k ∈ x.kids, k.op ≠ x.op) ∧ x.name = ⟨#[]⟩ ∧ 2 ≤ x.kids.length := by
  rw [r_node2 ho] at h
  simp only [Bool.and_eq_true, List.all_eq_true, Bool.not_eq_true', decide_eq_false_iff_not, decide_eq_true_eq] at h
  exact ⟨h.2.1, h.2.2.1, by omega⟩
theorem right_single {x : Rx} (h : rightB x = true) (ho : x.op = 7 ∨ x.op = 8) : ∃ hk : 0 < x.kids.length, x = .mk x.op ⟨#[]⟩ [x.kids[0]] := by
  rw [r_node1 ho] at h
  simp only [Bool.and_eq_true, decide_eq_true_eq] at h
  have hl : x.kids.length = 1 := by omega
  refine ⟨by omega, rx_ext rfl h.2.1 ?_⟩
  show x.kids = [x.kids[0]]
  obtain ⟨a, ha⟩ := List.length_eq_one_iff.1 hl
  simp [ha]
theorem right_plain {x : Rx} (h : rightB x = true) (ho : x.op = 2 ∨ x.op = 3 ∨ x.op = 4) : x = .mk x.op ⟨#[]⟩ [] := by
  rw [r_leaf ho] at h
  simp only [Bool.and_eq_true, decide_eq_true_eq] at h
  exact rx_ext rfl h.1 (List.eq_nil_of_length_eq_zero (by omega))
theorem right_named {x : Rx} (h : rightB x = true) (ho : x.op = 1) : x = .mk 1 x.name [] ∧ nameB x.name = true := by
  rw [r_leaf1 ho] at h
  simp only [Bool.and_eq_true, decide_eq_true_eq] at h
  exact ⟨rx_ext ho rfl (List.eq_nil_of_length_eq_zero (by omega)), h.1⟩
theorem name_bt {s : ByteArray} {j : Nat} (h : j < s.data.toList.length) : bt s j = (s.data.toList[j].toNat : Int) := (bt_list (List.getElem?_eq_getElem h)).2
theorem name_parts {s : ByteArray} (h : nameB s = true) : s ≠ ⟨#[]⟩ ∧ s.size ≤ 64 ∧ letB (bt s 0) = true ∧ ∀ j < s.size, alnB (bt s j) = true := by
  unfold nameB at h
  simp only [Bool.and_eq_true, Bool.not_eq_true', Bool.or_eq_false_iff, decide_eq_false_iff_not, decide_eq_true_eq, Bool.not_eq_false'] at h
  exact ⟨h.1.1.1, by omega, h.1.2, h.2⟩
theorem wr_cons {x : Rx} {o : Int} (h : ∃ c t, wrI x = c :: t ∧ hdC c = true) : ∃ c t, wr x o = c :: t ∧ hdC c = true ∧ (wrapB x.op o = true → c = 40) := by
  cases hw : wrapB x.op o with
  | true => exact ⟨40, _, by rw [wr_on hw]; rfl, by decide, fun _ => rfl⟩
  | false =>
    obtain ⟨c, t, h1, h2⟩ := h
    exact ⟨c, t, by rw [wr_off hw, h1], h2, fun h => by cases h⟩
/-- How a printed text begins. -/
theorem head_ok (x : Rx) (hr : rightB x = true) : ∃ c t, wrI x = c :: t ∧ hdC c = true ∧ (x.op ≠ 5 → x.op ≠ 6 → x.op ≠ 8 → c ≠ 33) := by
  induction x using Rx.ind with
  | _ x ih =>
    have hk := right_kids hr
    have kid : ∀ k ∈ x.kids, ∃ c t, wrI k = c :: t ∧ hdC c = true := fun k hm => by
      obtain ⟨c, t, h1, h2, _⟩ := ih k hm (hk k hm)
      exact ⟨c, t, h1, h2⟩
    rcases right_op hr with h | h | h | h | h | h | h
    · obtain ⟨_, hn⟩ := right_named hr h
      obtain ⟨h1, h2, h3, h4⟩ := name_parts hn
      rw [wrI_1 h]
      have hp : 0 < x.name.data.toList.length := by rw [← size_list]; exact size_pos h1
      cases hl : x.name.data.toList with
      | nil => rw [hl] at hp; simp at hp
      | cons c t =>
        have hb : bt x.name 0 = (c.toNat : Int) := (bt_list (by rw [hl]; rfl)).2
        rw [hb] at h3
        refine ⟨c, t, rfl, by rw [hdC, h3]; rfl, fun _ _ _ hc => ?_⟩
        subst hc; revert h3; decide
    · exact ⟨46, [], wrI_2 h, by decide, fun _ _ _ => by decide⟩
    · exact ⟨37, [], wrI_3 h, by decide, fun _ _ _ => by decide⟩
    · exact ⟨35, [], wrI_4 h, by decide, fun _ _ _ => by decide⟩
    · obtain ⟨h0, _⟩ := right_single hr (.inl h)
      have hm := List.getElem_mem h0
      obtain ⟨c1, t1, e1, e2, e3⟩ := ih _ hm (hk _ hm)
      obtain ⟨c, t, h1, h2, h3⟩ := wr_cons (o := 7) (kid _ hm)
      rw [wrI_7 h h0, h1]
      refine ⟨c, t ++ [42], rfl, h2, fun _ _ _ hc => ?_⟩
      cases hw : wrapB x.kids[0].op 7 with
      | true => rw [h3 hw] at hc; revert hc; decide
      | false =>
        rw [wr_off hw, e1] at h1
        cases h1
        unfold wrapB at hw
        simp at hw
        exact e3 (by omega) (by omega) (by omega) hc
    · obtain ⟨h0, _⟩ := right_single hr (.inr h)
      exact ⟨33, _, wrI_8 h h0, by decide, fun _ _ h8 => absurd h h8⟩
    · obtain ⟨_, _, hl⟩ := right_many hr h
      have h0 : 0 < x.kids.length := by omega
      obtain ⟨c, t, h1, h2, _⟩ := wr_cons (o := x.op) (kid _ (List.getElem_mem h0))
      rw [wrI_L h]
      have hd : x.kids = x.kids[0] :: x.kids.drop 1 := by
        have := List.drop_eq_getElem_cons h0; simpa using this
      rw [hd, wrL]
      simp only [if_true, List.nil_append]
      rw [h1]
      exact ⟨c, _, rfl, h2, fun h5 h6 _ => by omega⟩
theorem wr_head (x : Rx) (hr : rightB x = true) (o : Int) : ∃ c t, wr x o = c :: t ∧ hdC c = true := by
  obtain ⟨c, t, h1, h2, _⟩ := head_ok x hr
  obtain ⟨c, t, h1, h2, _⟩ := wr_cons (o := o) ⟨c, t, h1, h2⟩
  exact ⟨c, t, h1, h2⟩
theorem wrN_out (op : Int) : ∀ n x, wrN op (n + 1) x = .mk op ⟨#[]⟩ [wrN op n x]
  | 0, x => rfl
  | n + 1, x => by rw [wrN, wrN_out op n, wrN]
theorem tks_rep {s : ByteArray} {c : UInt8} (hc : isBl c.toNat = false) : ∀ n i, TA s i (List.replicate n c) → tkB s (bl s (i + n)) c.toNat = false → tks s c.toNat (bl s i) = (n, bl s (i + n))
  | 0, i, _, h => tks_stop h
  | n + 1, i, ht, h => by
    rw [List.replicate_succ] at ht
    obtain ⟨h1, h2⟩ := ht.hd
    have h3 : bl s i = i := bl_stop fun h => by rw [h2, hc] at h; cases h.2
    have h4 : tkB s i c.toNat = true := by simp [tkB, h1, h2]
    rw [h3, tks_step h4, tkI, if_pos h4, tks_rep hc n (i + 1) ht.tl (by rw [show i + 1 + n = i + (n + 1) by omega]; exact h), show i + 1 + n = i + (n + 1) by omega]
/-- How a part with its stars is read. -/
def StarR (s : ByteArray) (f i o : Nat) (d : Bool) (x : Rx) (e : Nat) : Prop := ∃ y j n e0, pAtom s f i o d = .ok y j d ∧ x = wrN 7 n y ∧ e = e0 + n ∧ TA s e0 (List.replicate n 42) ∧ bl s j = bl s e0
theorem fac_star {s : ByteArray} {f i o : Nat} {d : Bool} {x : Rx} {e : Nat} (h : StarR s f i o d x e) (h33 : tkB s i 33 = false) (h42 : tkB s (bl s e) 42 = false) : pFac s (f + 1) i o d = .ok x (bl s e) d := by
  obtain ⟨y, j, n, e0, h1, rfl, rfl, h4, h5⟩ := h
  have h6 := tks_rep (c := 42) (by decide) n e0 h4 h42
  have h7 : (((42 : UInt8).toNat : Nat) : Int) = 42 := rfl
  rw [h7] at h6
  rw [pFac, tks_stop h33, h1]
  simp only [h5, h6, wrN]
theorem fac_not {s : ByteArray} {f i o : Nat} {d : Bool} {y : Rx} {j : Nat} (h : pFac s (f + 1) (i + 1) o d = .ok y j d) (h33 : tkB s i 33 = true) (hb : bl s (i + 1) = i + 1) : pFac s (f + 1) i o d = .ok (.mk 8 ⟨#[]⟩ [y]) j d := by
  have h1 : tks s 33 i = ((tks s 33 (i + 1)).1 + 1, (tks s 33 (i + 1)).2) := by rw [tks_step h33, tkI, if_pos h33, hb]
  rw [pFac] at h ⊢
  rw [h1]
  dsimp only
  split at h
  · cases h
  · cases h
    simp only [wrN_out]
theorem anE_run {s : ByteArray} : ∀ k i, (∀ j < k, alnB (bt s (i + j)) = true) → alnB (bt s (i + k)) = false → anE s i = i + k
  | 0, i, _, h => anE_stop h
  | k + 1, i, h, h2 => by
    rw [anE_step (by simpa using h 0 (by omega)), anE_run k (i + 1) (fun j hj => by rw [show i + 1 + j = i + (j + 1) by omega]; exact h (j + 1) (by omega)) (by rw [show i + 1 + k = i + (k + 1) by omega]; exact h2)]
    omega
theorem extract_TA {s t : ByteArray} {i : Nat} (h : TA s i t.data.toList) : s.extract i (i + t.size) = t := by
  obtain ⟨r, h⟩ := h
  apply ByteArray.ext
  apply Array.toList_inj.1
  rw [ByteArray.data_extract, Array.toList_extract]
  simp only [List.extract_eq_take_drop] at *
  rw [h, show i + t.size - i = t.data.toList.length by rw [← size_list]; omega, List.take_left' rfl]
structure Fol (s : ByteArray) (e : Nat) : Prop where
  star : tkB s (bl s e) 42 = false
  aln : alnB (bt s e) = false
section
variable (x : Rx)
def AltOk : Prop := ∀ s i f o m d, TA s i (wrI x) → dpB x m = true → o + m ≤ 50 → 5 * (s.size - i) + 4 ≤ f → Fol s (i + (wrI x).length) → bgB s (bl s (i + (wrI x).length)) = false → tkB s (bl s (i + (wrI x).length)) 124 = false → pAlt s f i o d = .ok x (bl s (i + (wrI x).length)) d
def RowOk : Prop := x.op ≠ 6 → ∀ s i f o m d, TA s i (wrI x) → dpB x m = true → o + m ≤ 50 → 5 * (s.size - i) + 3 ≤ f → Fol s (i + (wrI x).length) → bgB s (bl s (i + (wrI x).length)) = false → pRow s f i o d = .ok x (bl s (i + (wrI x).length)) d
def FacOk : Prop := x.op ≠ 5 → x.op ≠ 6 → ∀ s i f o m d, TA s i (wrI x) → dpB x m = true → o + m ≤ 50 → 5 * (s.size - i) + 2 ≤ f → Fol s (i + (wrI x).length) → pFac s f i o d = .ok x (bl s (i + (wrI x).length)) d
def StarOk : Prop := x.op ≠ 5 → x.op ≠ 6 → x.op ≠ 8 → ∀ s i f o m d, TA s i (wrI x) → dpB x m = true → o + m ≤ 50 → 5 * (s.size - i) + 1 ≤ f → alnB (bt s (i + (wrI x).length)) = false → StarR s f i o d x (i + (wrI x).length)
end
/-- An expression in parentheses. -/
theorem atom_wrap {k : Rx} (hr : rightB k = true) (hA : AltOk k) {s : ByteArray} {i f o m : Nat} {d : Bool} (ht : TA s i ([40] ++ wrI k ++ [41])) (hd : dpB k m = true) (ho : o + 1 + m ≤ 50) (hf : 5 * (s.size - i) + 1 ≤ f) : pAtom s f i o d = .ok k (bl s (i + ([40] ++ wrI k ++ [41]).length)) d := by
  obtain ⟨f, rfl⟩ : ∃ f', f = f' + 1 := ⟨f - 1, by omega⟩
  have h0 : TA s i (40 :: (wrI k ++ [41])) := by simpa using ht
  obtain ⟨h1, h2⟩ := h0.hd
  have h3 : TA s (i + 1) (wrI k) := h0.tl.left
  have h4 : TA s (i + 1 + (wrI k).length) [41] := h0.tl.right
  obtain ⟨c, t, h5, h6, _⟩ := head_ok k hr
  have h7 := (TA.head (h5 ▸ h3) h6).1
  obtain ⟨h8, h9⟩ := h4.hd
  have hb40 : bt s i = 40 := h2
  have hb41 : bt s (i + 1 + (wrI k).length) = 41 := h9
  have ht40 : tkB s i 40 = true := by simp [tkB, h1, hb40]
  have ht41 : tkB s (i + 1 + (wrI k).length) 41 = true := by simp [tkB, h8, hb41]
  have hbl : bl s (i + 1 + (wrI k).length) = i + 1 + (wrI k).length := bl_stop fun h => by rw [hb41] at h; exact absurd h.2 (by decide)
  have h10 := hA s (i + 1) f (o + 1) m (d || decide (50 < o + 1)) h3 hd (by omega) (by omega) ⟨by rw [hbl]; exact tkB_nbt (by rw [hb41]; decide), by rw [hb41]; decide⟩ (by rw [hbl, bgB, hb41]; decide) (by rw [hbl]; exact tkB_nbt (by rw [hb41]; decide))
  rw [decide_eq_false (by omega : ¬ 50 < o + 1), Bool.or_false, hbl] at h10
  rw [pAtom, if_neg (by rw [hb40]; decide), if_neg (by rw [tkB_nbt (by rw [hb40]; decide)]; decide), if_neg (by rw [tkB_nbt (by rw [hb40]; decide)]; decide), if_neg (by rw [tkB_nbt (by rw [hb40]; decide)]; decide), if_pos ht40, tkI, if_pos ht40, h7, decide_eq_false (by omega : ¬ 50 < o + 1), Bool.or_false, h10]
  dsimp only
  rw [if_pos ht41, tkI, if_pos ht41]
  simp only [List.length_append, List.length_singleton]
  rw [show i + 1 + (wrI k).length + 1 = i + (1 + (wrI k).length + 1) by omega]
theorem star_wrap {k : Rx} (hr : rightB k = true) (hA : AltOk k) {s : ByteArray} {i f o m : Nat} {d : Bool} (ht : TA s i ([40] ++ wrI k ++ [41])) (hd : dpB k m = true) (ho : o + 1 + m ≤ 50) (hf : 5 * (s.size - i) + 1 ≤ f) : StarR s f i o d k (i + ([40] ++ wrI k ++ [41]).length) :=
  ⟨k, _, 0, _, atom_wrap hr hA ht hd ho hf, rfl, rfl, ⟨_, rfl⟩, bl_idem ..⟩
theorem kfac {k : Rx} (hr : rightB k = true) (hA : AltOk k) (hF : FacOk k) {outer : Int} (hk : wrapB k.op outer = true ∨ k.op ≠ 5 ∧ k.op ≠ 6) {s : ByteArray} {i f o m : Nat} {d : Bool} (ht : TA s i (wr k outer)) (hd : dpB k m = true) (ho : o + 1 + m ≤ 50) (hf : 5 * (s.size - i) + 2 ≤ f) (hfol : Fol s (i + (wr k outer).length)) : pFac s f i o d = .ok k (bl s (i + (wr k outer).length)) d := by
  cases hw : wrapB k.op outer with
  | true =>
    rw [wr_on hw] at ht hfol ⊢
    obtain ⟨f, rfl⟩ : ∃ f', f = f' + 1 := ⟨f - 1, by omega⟩
    have h0 : TA s i (40 :: (wrI k ++ [41])) := by simpa using ht
    have hb40 : bt s i = 40 := h0.hd.2
    exact fac_star (star_wrap hr hA ht hd ho (by omega)) (tkB_nbt (by rw [hb40]; decide)) hfol.star
  | false =>
    rw [wr_off hw] at ht hfol ⊢
    have h2 : k.op ≠ 5 ∧ k.op ≠ 6 := hk.elim (fun h => by rw [hw] at h; cases h) id
    exact hF h2.1 h2.2 s i f o m d ht hd (by omega) hf hfol
theorem kstar {k : Rx} (hr : rightB k = true) (hA : AltOk k) (hS : StarOk k) {s : ByteArray} {i f o m : Nat} {d : Bool} (ht : TA s i (wr k 7)) (hd : dpB k m = true) (ho : o + 1 + m ≤ 50) (hf : 5 * (s.size - i) + 1 ≤ f) (hal : alnB (bt s (i + (wr k 7).length)) = false) : StarR s f i o d k (i + (wr k 7).length) := by
  cases hw : wrapB k.op 7 with
  | true =>
    rw [wr_on hw] at ht ⊢
    exact star_wrap hr hA ht hd ho hf
  | false =>
    rw [wr_off hw] at ht hal ⊢
    unfold wrapB at hw
    simp at hw
    exact hS (by omega) (by omega) (by omega) s i f o m d ht hd (by omega) hf hal
theorem dp_kid {x k : Rx} {m : Nat} (h : dpB x m = true) (hk : k ∈ x.kids) : ∃ m', m = m' + 1 ∧ dpB k m' = true := by
  cases m with
  | zero => rw [dpB_zero] at h; cases h
  | succ m' => rw [dpB_eq, List.all_eq_true] at h; exact ⟨m', rfl, h k hk⟩
theorem starOk {x : Rx} (hr : rightB x = true) (ih : ∀ k ∈ x.kids, AltOk k ∧ StarOk k) : StarOk x := by
  intro h5 h6 h8 s i f o m d ht hd ho hf hal
  obtain ⟨f, rfl⟩ : ∃ f', f = f' + 1 := ⟨f - 1, by omega⟩
  rcases right_op hr with h | h | h | h | h | h | h
  · obtain ⟨hx, hn⟩ := right_named hr h
    obtain ⟨n1, n2, n3, n4⟩ := name_parts hn
    rw [wrI_1 h] at ht hal ⊢
    rw [← size_list] at hal ⊢
    have hat : ∀ j, j < x.name.size → bt s (i + j) = bt x.name j := fun j hj => by
      have hj' : j < x.name.data.toList.length := by rw [← size_list]; exact hj
      rw [(ht.at hj').2, name_bt hj']
    have hE : anE s i = i + x.name.size := anE_run _ i (fun j hj => by rw [hat j hj]; exact n4 j hj) hal
    refine ⟨x, i + x.name.size, 0, i + x.name.size, ?_, rfl, rfl, ⟨_, rfl⟩, rfl⟩
    rw [pAtom, if_pos (by have := hat 0 (size_pos n1); rw [Nat.add_zero] at this; rw [this]; exact n3), hE, if_neg (by omega), extract_TA ht, ← hx]
  · rw [wrI_2 h] at ht ⊢
    obtain ⟨h1, h2⟩ := ht.hd
    have hb : bt s i = 46 := h2
    have hk : tkB s i 46 = true := by simp [tkB, h1, hb]
    refine ⟨x, bl s (i + 1), 0, i + 1, ?_, rfl, rfl, ⟨_, rfl⟩, bl_idem ..⟩
    rw [pAtom, if_neg (by rw [hb]; decide), if_pos hk, tkI, if_pos hk]
    congr 1
    rw [right_plain hr (.inl h), h]
  · rw [wrI_3 h] at ht ⊢
    obtain ⟨h1, h2⟩ := ht.hd
    have hb : bt s i = 37 := h2
    have hk : tkB s i 37 = true := by simp [tkB, h1, hb]
    refine ⟨x, bl s (i + 1), 0, i + 1, ?_, rfl, rfl, ⟨_, rfl⟩, bl_idem ..⟩
    rw [pAtom, if_neg (by rw [hb]; decide), if_neg (by rw [tkB_nbt (by rw [hb]; decide)]; decide), if_pos hk, tkI, if_pos hk]
    congr 1
    rw [right_plain hr (.inr (.inl h)), h]
  · rw [wrI_4 h] at ht ⊢
    obtain ⟨h1, h2⟩ := ht.hd
    have hb : bt s i = 35 := h2
    have hk : tkB s i 35 = true := by simp [tkB, h1, hb]
    refine ⟨x, bl s (i + 1), 0, i + 1, ?_, rfl, rfl, ⟨_, rfl⟩, bl_idem ..⟩
    rw [pAtom, if_neg (by rw [hb]; decide), if_neg (by rw [tkB_nbt (by rw [hb]; decide)]; decide), if_neg (by rw [tkB_nbt (by rw [hb]; decide)]; decide), if_pos hk, tkI, if_pos hk]
    congr 1
    rw [right_plain hr (.inr (.inr h)), h]
  · obtain ⟨h0, hx⟩ := right_single hr (.inl h)
    have hm := List.getElem_mem h0
    obtain ⟨m', rfl, hd'⟩ := dp_kid hd hm
    rw [wrI_7 h h0] at ht hal ⊢
    have ht2 := ht.right
    obtain ⟨h1, h2⟩ := ht2.hd
    have hb : bt s (i + (wr x.kids[0] 7).length) = 42 := h2
    obtain ⟨y, j, n, e0, k1, k2, k3, k4, k5⟩ := kstar (right_kids hr _ hm) (ih _ hm).1 (ih _ hm).2 (d := d) (o := o) (f := f + 1) ht.left hd' (by omega) hf (by rw [hb]; decide)
    refine ⟨y, j, n + 1, e0, k1, ?_, ?_, ?_, k5⟩
    · rw [wrN_out, ← k2, ← h]; exact hx
    · rw [List.length_append, List.length_singleton]; omega
    · rw [List.replicate_succ']
      refine k4.join ?_
      rw [List.length_replicate, ← k3]; exact ht2
  · omega
  · omega
theorem facOk {x : Rx} (hr : rightB x = true) (hS : StarOk x) (ih : ∀ k ∈ x.kids, AltOk k ∧ FacOk k) : FacOk x := by
  intro h5 h6 s i f o m d ht hd ho hf hfol
  obtain ⟨f, rfl⟩ : ∃ f', f = f' + 1 := ⟨f - 1, by omega⟩
  by_cases h8 : x.op = 8
  · obtain ⟨h0, hx⟩ := right_single hr (.inr h8)
    have hm := List.getElem_mem h0
    obtain ⟨m', rfl, hd'⟩ := dp_kid hd hm
    rw [wrI_8 h8 h0] at ht hfol ⊢
    obtain ⟨h1, h2⟩ := ht.hd
    have hb : bt s i = 33 := h2
    obtain ⟨c, t, k1, k2⟩ := wr_head _ (right_kids hr _ hm) 8
    have hbl := (TA.head (k1 ▸ ht.tl) k2).1
    rw [List.length_cons, show i + ((wr x.kids[0] 8).length + 1) = i + 1 + (wr x.kids[0] 8).length by omega] at hfol ⊢
    have hk := kfac (right_kids hr _ hm) (ih _ hm).1 (ih _ hm).2 (outer := 8) (by unfold wrapB; simp; omega) (d := d) (o := o) (f := f + 1) ht.tl hd' (by omega) (by omega) hfol
    rw [fac_not hk (by simp [tkB, h1, hb]) hbl]
    congr 1
    rw [← h8]; exact hx.symm
  · obtain ⟨c, t, k1, k2, k3⟩ := head_ok x hr
    have hb : bt s i = (c.toNat : Int) := (TA.hd (k1 ▸ ht)).2
    refine fac_star (hS h5 h6 h8 s i f o m d ht hd ho (by omega) hfol.aln) (tkB_nbt fun h => ?_) hfol.star
    rw [hb] at h
    refine k3 h5 h6 h8 ?_
    apply UInt8.toNat_inj.1
    show c.toNat = 33
    omega
theorem sep5 : (sepB 5).data.toList = [32] := rfl
theorem sep6 : (sepB 6).data.toList = [32, 124, 32] := rfl
theorem bl_32 {s : ByteArray} {e : Nat} {c : UInt8} {t : List UInt8} (h : TA s e (32 :: c :: t)) (hc : hdC c = true) : bl s e = e + 1 := by
  obtain ⟨h1, h2⟩ := h.hd
  have hb : bt s e = 32 := h2
  rw [bl_step h1 (by rw [hb]; decide), (TA.head h.tl hc).1]
theorem wrL5_cons (k : Rx) (l : List Rx) : wrL (k :: l) 5 false = 32 :: (wr k 5 ++ wrL l 5 false) := by rw [wrL]; rfl
theorem wrL6_cons (k : Rx) (l : List Rx) : wrL (k :: l) 6 false = 32 :: 124 :: 32 :: (wr k 6 ++ wrL l 6 false) := by rw [wrL]; rfl
theorem fol5 {s : ByteArray} {e : Nat} {l : List Rx} (hl : ∀ k ∈ l, rightB k = true) (h : TA s e (wrL l 5 false)) (h0 : l = [] → Fol s e) : Fol s e := by
  cases l with
  | nil => exact h0 rfl
  | cons k l =>
    rw [wrL5_cons] at h
    obtain ⟨c, t, k1, k2⟩ := wr_head k (hl k (List.mem_cons_self ..)) 5
    rw [k1, List.cons_append] at h
    have h1 := TA.head h.tl k2
    have hb : bt s e = 32 := h.hd.2
    exact ⟨by rw [bl_32 h k2]; exact h1.2.2.1, by rw [hb]; decide⟩
theorem rowT {s : ByteArray} {o m : Nat} {d : Bool} (ho : o + 1 + m ≤ 50) : ∀ (l : List Rx), (∀ k ∈ l, rightB k = true ∧ AltOk k ∧ FacOk k ∧ k.op ≠ 5 ∧ dpB k m = true) → ∀ (acc : List Rx) (e f : Nat), TA s e (wrL l 5 false) → 5 * (s.size - e) + 3 ≤ f → Fol s (e + (wrL l 5 false).length) → bgB s (bl s (e + (wrL l 5 false).length)) = false → pRowT s f (bl s e) o d acc = .ok (joinR 5 (acc ++ l)) (bl s (e + (wrL l 5 false).length)) d
  | [], _, acc, e, f, _, hf, _, hbg => by
    obtain ⟨f, rfl⟩ : ∃ f', f = f' + 1 := ⟨f - 1, by omega⟩
    rw [wrL, List.length_nil, Nat.add_zero] at hbg ⊢
    rw [pRowT, if_neg (by rw [hbg]; decide), List.append_nil]
    rfl
  | k :: l, hl, acc, e, f, ht, hf, hfol, hbg => by
    obtain ⟨f, rfl⟩ : ∃ f', f = f' + 1 := ⟨f - 1, by omega⟩
    obtain ⟨r1, r2, r3, r4, r5⟩ := hl k (List.mem_cons_self ..)
    have hl2 := fun k' hk' => hl k' (List.mem_cons_of_mem k hk')
    rw [wrL5_cons] at ht hfol hbg ⊢
    obtain ⟨c, t, k1, k2⟩ := wr_head k r1 5
    have hbl : bl s e = e + 1 := by
      rw [k1, List.cons_append] at ht
      exact bl_32 ht k2
    have h1 := ht.tl
    have h2 := TA.head (k1 ▸ h1.left) k2
    have h3 := h1.right
    have hsz := ht.hd.1
    have he : e + (32 :: (wr k 5 ++ wrL l 5 false)).length = e + 1 + (wr k 5).length + (wrL l 5 false).length := by simp only [List.length_cons, List.length_append]; omega
    rw [he] at hfol hbg ⊢
    have hf2 := fol5 (fun k' hk' => (hl2 k' hk').1) h3 fun h => by subst h; rw [wrL, List.length_nil, Nat.add_zero] at hfol; exact hfol
    have hk := kfac r1 r2 r3 (outer := 5) (by unfold wrapB; simp; omega) (d := d) (o := o) (f := f) h1.left r5 ho (by omega) hf2
    rw [hbl, pRowT, if_pos h2.2.1, hk]
    dsimp only
    rw [rowT ho l hl2 (acc ++ [k]) _ f h3 (by omega) hfol hbg, List.append_assoc]
    rfl
theorem join_one (op : Int) (x : Rx) : joinR op [x] = x := rfl
theorem join_kids {x : Rx} (hr : rightB x = true) (ho : x.op = 5 ∨ x.op = 6) : joinR x.op x.kids = x := by
  obtain ⟨h1, h2, h3⟩ := right_many hr ho
  rw [joinR_more (by omega) (by omega)]
  have h4 : jkL x.op x.kids = x.kids := by
    have key : ∀ l : List Rx, (∀ k ∈ l, k.op ≠ x.op) → jkL x.op l = l := by
      intro l
      induction l with
      | nil => intro _; rfl
      | cons a l ihl =>
        intro h
        have h5 := ihl fun k hk => h k (List.mem_cons_of_mem _ hk)
        unfold jkL at h5 ⊢
        rw [List.flatMap_cons, if_neg (h a (List.mem_cons_self ..)), h5]
        rfl
    exact key _ h1
  exact rx_ext rfl h2.symm h4
theorem kids_split {x : Rx} (h : 2 ≤ x.kids.length) : x.kids = x.kids[0] :: x.kids.drop 1 := by
  have := List.drop_eq_getElem_cons (l := x.kids) (i := 0) (by omega); simpa using this
theorem rowOk {x : Rx} (hr : rightB x = true) (hF : FacOk x) (ih : ∀ k ∈ x.kids, AltOk k ∧ FacOk k) : RowOk x := by
  intro h6 s i f o m d ht hd ho hf hfol hbg
  obtain ⟨f, rfl⟩ : ∃ f', f = f' + 1 := ⟨f - 1, by omega⟩
  obtain ⟨c0, t0, z1, z2, _⟩ := head_ok x hr
  have hsz := (TA.hd (z1 ▸ ht)).1
  by_cases h5 : x.op = 5
  · obtain ⟨n1, n2, n3⟩ := right_many hr (.inl h5)
    have hsp := kids_split n3
    have hall : ∀ k ∈ x.kids, rightB k = true ∧ AltOk k ∧ FacOk k ∧ k.op ≠ 5 := fun k hk => ⟨right_kids hr k hk, (ih k hk).1, (ih k hk).2, h5 ▸ n1 k hk⟩
    obtain ⟨m', rfl, _⟩ := dp_kid hd (List.getElem_mem (show 0 < x.kids.length by omega))
    have hdp : ∀ k ∈ x.kids, dpB k m' = true := fun k hk => by
      obtain ⟨m2, e, h⟩ := dp_kid hd hk
      obtain rfl : m' = m2 := by omega
      exact h
    have hw : wrI x = wr x.kids[0] 5 ++ wrL (x.kids.drop 1) 5 false := by
      rw [wrI_L (.inl h5), h5]
      conv => lhs; rw [hsp, wrL]
      simp
    rw [hw] at ht hfol hbg ⊢
    rw [List.length_append, ← Nat.add_assoc] at hfol hbg ⊢
    have hm0 := List.getElem_mem (show 0 < x.kids.length by omega)
    obtain ⟨r1, r2, r3, r4⟩ := hall _ hm0
    have h3 := ht.right
    have hsub : ∀ k ∈ x.kids.drop 1, k ∈ x.kids := fun k hk => List.mem_of_mem_drop hk
    have hf2 := fol5 (fun k' hk' => (hall k' (hsub k' hk')).1) h3 fun h => by rw [h, wrL, List.length_nil, Nat.add_zero] at hfol; exact hfol
    have hk := kfac r1 r2 r3 (outer := 5) (by unfold wrapB; simp; omega) (d := d) (o := o) (f := f) ht.left (hdp _ hm0) (by omega) (by omega) hf2
    rw [pRow, hk]
    dsimp only
    obtain ⟨c, t, k1, k2⟩ := wr_head _ r1 5
    have hpos : 1 ≤ (wr x.kids[0] 5).length := by rw [k1]; simp
    rw [rowT (m := m') (by omega) (x.kids.drop 1) (fun k hk => by obtain ⟨a1, a2, a3, a4⟩ := hall k (hsub k hk); exact ⟨a1, a2, a3, a4, hdp k (hsub k hk)⟩) [x.kids[0]] _ f h3 (by omega) hfol hbg]
    congr 1
    rw [List.singleton_append, ← hsp, ← h5]
    exact join_kids hr (.inl h5)
  · obtain ⟨f, rfl⟩ : ∃ f', f = f' + 1 := ⟨f - 1, by omega⟩
    rw [pRow, hF h5 h6 s i (f + 1) o m d ht hd ho (by omega) hfol]
    dsimp only
    rw [pRowT, if_neg (by rw [hbg]; decide), join_one]
theorem fol6 {s : ByteArray} {e : Nat} {l : List Rx} (h : TA s e (wrL l 6 false)) (h0 : l = [] → Fol s e ∧ bgB s (bl s e) = false) : Fol s e ∧ bgB s (bl s e) = false := by
  cases l with
  | nil => exact h0 rfl
  | cons k l =>
    rw [wrL6_cons] at h
    have hb : bt s e = 32 := h.hd.2
    obtain ⟨h1, h2⟩ := h.tl.hd
    have hb2 : bt s (e + 1) = 124 := h2
    have hbl : bl s e = e + 1 := by rw [bl_step h.hd.1 (by rw [hb]; decide), bl_stop fun h => by rw [hb2] at h; exact absurd h.2 (by decide)]
    exact ⟨⟨by rw [hbl]; exact tkB_nbt (by rw [hb2]; decide), by rw [hb]; decide⟩, by rw [hbl, bgB, hb2]; decide⟩
theorem wr6 {k : Rx} (h : k.op ≠ 6) : wr k 6 = wrI k := wr_off (by unfold wrapB; simp [h])
theorem altT {s : ByteArray} {o m : Nat} {d : Bool} (ho : o + 1 + m ≤ 50) : ∀ (l : List Rx), (∀ k ∈ l, rightB k = true ∧ RowOk k ∧ k.op ≠ 6 ∧ dpB k m = true) → ∀ (acc : List Rx) (e f : Nat), TA s e (wrL l 6 false) → 5 * (s.size - e) + 4 ≤ f → Fol s (e + (wrL l 6 false).length) → bgB s (bl s (e + (wrL l 6 false).length)) = false → tkB s (bl s (e + (wrL l 6 false).length)) 124 = false → pAltT s f (bl s e) o d acc = .ok (joinR 6 (acc ++ l)) (bl s (e + (wrL l 6 false).length)) d
  | [], _, acc, e, f, _, hf, _, _, hbar => by
    obtain ⟨f, rfl⟩ : ∃ f', f = f' + 1 := ⟨f - 1, by omega⟩
    rw [wrL, List.length_nil, Nat.add_zero] at hbar ⊢
    rw [pAltT, if_neg (by rw [hbar]; decide), List.append_nil]
    rfl
  | k :: l, hl, acc, e, f, ht, hf, hfol, hbg, hbar => by
    obtain ⟨f, rfl⟩ : ∃ f', f = f' + 1 := ⟨f - 1, by omega⟩
    obtain ⟨r1, r2, r3, r4⟩ := hl k (List.mem_cons_self ..)
    have hl2 := fun k' hk' => hl k' (List.mem_cons_of_mem k hk')
    rw [wrL6_cons, wr6 r3] at ht hfol hbg hbar ⊢
    have hb : bt s e = 32 := ht.hd.2
    obtain ⟨h1, h2⟩ := ht.tl.hd
    have hb2 : bt s (e + 1) = 124 := h2
    have hbl : bl s e = e + 1 := by rw [bl_step ht.hd.1 (by rw [hb]; decide), bl_stop fun h => by rw [hb2] at h; exact absurd h.2 (by decide)]
    obtain ⟨c, t, k1, k2, _⟩ := head_ok k r1
    have h3 := ht.tl.tl
    have hbl2 : bl s (e + 1 + 1) = e + 1 + 1 + 1 := by
      rw [k1, List.cons_append] at h3
      exact bl_32 h3 k2
    have h4 := h3.tl
    have h5 := h4.right
    have hbar1 : tkB s (e + 1) 124 = true := by simp [tkB, h1, hb2]
    have he : e + (32 :: 124 :: 32 :: (wrI k ++ wrL l 6 false)).length = e + 1 + 1 + 1 + (wrI k).length + (wrL l 6 false).length := by simp only [List.length_cons, List.length_append]; omega
    rw [he] at hfol hbg hbar ⊢
    have hf2 := fol6 h5 fun h => by subst h; rw [wrL, List.length_nil, Nat.add_zero] at hfol hbg; exact ⟨hfol, hbg⟩
    have hk := r2 r3 s _ f o m d h4.left r4 (by omega) (by omega) hf2.1 hf2.2
    rw [hbl, pAltT, if_pos hbar1, tkI, if_pos hbar1, hbl2, hk]
    dsimp only
    rw [altT ho l hl2 (acc ++ [k]) _ f h5 (by omega) hfol hbg hbar, List.append_assoc]
    rfl
theorem altOk {x : Rx} (hr : rightB x = true) (hR : RowOk x) (ih : ∀ k ∈ x.kids, RowOk k) : AltOk x := by
  intro s i f o m d ht hd ho hf hfol hbg hbar
  obtain ⟨f, rfl⟩ : ∃ f', f = f' + 1 := ⟨f - 1, by omega⟩
  obtain ⟨c0, t0, z1, z2, _⟩ := head_ok x hr
  have hsz := (TA.hd (z1 ▸ ht)).1
  have hbl := (TA.head (z1 ▸ ht) z2).1
  by_cases h6 : x.op = 6
  · obtain ⟨n1, n2, n3⟩ := right_many hr (.inr h6)
    have hsp := kids_split n3
    obtain ⟨m', rfl, _⟩ := dp_kid hd (List.getElem_mem (show 0 < x.kids.length by omega))
    have hdp : ∀ k ∈ x.kids, dpB k m' = true := fun k hk => by
      obtain ⟨m2, e, h⟩ := dp_kid hd hk
      obtain rfl : m' = m2 := by omega
      exact h
    have hm0 := List.getElem_mem (show 0 < x.kids.length by omega)
    have h60 : x.kids[0].op ≠ 6 := h6 ▸ n1 _ hm0
    have hw : wrI x = wrI x.kids[0] ++ wrL (x.kids.drop 1) 6 false := by
      rw [wrI_L (.inr h6), h6]
      conv => lhs; rw [hsp, wrL]
      rw [wr6 h60]
      simp
    rw [hw] at ht hfol hbg hbar ⊢
    rw [List.length_append, ← Nat.add_assoc] at hfol hbg hbar ⊢
    have h3 := ht.right
    have hsub : ∀ k ∈ x.kids.drop 1, k ∈ x.kids := fun k hk => List.mem_of_mem_drop hk
    have hf2 := fol6 h3 fun h => by rw [h, wrL, List.length_nil, Nat.add_zero] at hfol hbg; exact ⟨hfol, hbg⟩
    have hk := ih _ hm0 h60 s i f o m' d ht.left (hdp _ hm0) (by omega) (by omega) hf2.1 hf2.2
    rw [pAlt, hbl, hk]
    dsimp only
    obtain ⟨c, t, k1, k2, _⟩ := head_ok _ (right_kids hr _ hm0)
    have hpos : 1 ≤ (wrI x.kids[0]).length := by rw [k1]; simp
    rw [altT (m := m') (by omega) (x.kids.drop 1) (fun k hk => ⟨right_kids hr k (hsub k hk), ih k (hsub k hk), h6 ▸ n1 k (hsub k hk), hdp k (hsub k hk)⟩) [x.kids[0]] _ f h3 (by omega) hfol hbg hbar]
    congr 1
    rw [List.singleton_append, ← hsp, ← h6]
    exact join_kids hr (.inr h6)
  · obtain ⟨f, rfl⟩ : ∃ f', f = f' + 1 := ⟨f - 1, by omega⟩
    rw [pAlt, hbl, hR h6 s i (f + 1) o m d ht hd ho (by omega) hfol hbg]
    dsimp only
    rw [pAltT, if_neg (by rw [hbar]; decide), join_one]
theorem back_all (x : Rx) (hr : rightB x = true) : AltOk x ∧ RowOk x ∧ FacOk x ∧ StarOk x := by
  induction x using Rx.ind with
  | _ x ih =>
    have hk := right_kids hr
    have hS := starOk hr fun k hm => ⟨(ih k hm (hk k hm)).1, (ih k hm (hk k hm)).2.2.2⟩
    have hF := facOk hr hS fun k hm => ⟨(ih k hm (hk k hm)).1, (ih k hm (hk k hm)).2.2.1⟩
    have hR := rowOk hr hF fun k hm => ⟨(ih k hm (hk k hm)).1, (ih k hm (hk k hm)).2.2.1⟩
    exact ⟨altOk hr hR fun k hm => (ih k hm (hk k hm)).2.1, hR, hF, hS⟩
/-- What is printed means the same. -/
theorem parse_print {x : Rx} (he : errE x = 0) (hsz : (printB x).size ≤ 10000) : parseV (printB x) = (x, 0, 0) := by
  have hok := errE_ok.1 he
  have hp : printB x = ⟨(wrI x).toArray⟩ := by rw [printB, if_pos he, wr_zero]
  have hl : (printB x).data.toList = wrI x := by rw [hp]
  have hs : (printB x).size = (wrI x).length := by rw [size_list, hl]
  have hbe : bl (printB x) (printB x).size = (printB x).size := bl_stop fun h => by omega
  have ht : TA (printB x) 0 (wrI x) := ⟨[], by rw [List.drop_zero, hl, List.append_nil]⟩
  have hb0 : bt (printB x) (printB x).size = 0 := bt_ge (Nat.le_refl _)
  have h := (back_all x hok.right).1 (printB x) 0 (5 * (printB x).size + 4) 0 50 false ht hok.dp (by omega) (by omega)
  rw [Nat.zero_add, ← hs, hbe] at h
  have h2 := h ⟨by rw [hbe]; exact tkB_nbt (by rw [hb0]; decide), by rw [hb0]; decide⟩ (by rw [bgB, hb0]; decide) (tkB_nbt (by rw [hb0]; decide))
  exact parseV_ok (by omega) h2 (by omega) (by rw [he]; simp)
end Go.Proofs.Ytjdhkopjigijfaa
/-
  RegexBack: its law as a contract.
-/
set_option linter.unusedSimpArgs false
set_option linter.unusedVariables false
set_option maxHeartbeats 4000000
namespace Go.Proofs.Ytjdhkopjigijfaa
open Go.RowKit
attribute [local irreducible] Wk Tr
/-- How many parentheses are open behind some bytes, and how many there were at most. -/
def opN (s : ByteArray) : Nat → Int × Int
  | 0 => (0, 0)
  | i + 1 => if bt s i = 40 then ((opN s i).1 + 1, if (opN s i).2 < (opN s i).1 + 1 then (opN s i).1 + 1 else (opN s i).2) else if bt s i = 41 then ((opN s i).1 - 1, (opN s i).2) else opN s i
theorem opN_le (s : ByteArray) : ∀ i : Nat, -(i : Int) ≤ (opN s i).1 ∧ (opN s i).1 ≤ i ∧ 0 ≤ (opN s i).2 ∧ (opN s i).2 ≤ i
  | 0 => by simp [opN]
  | i + 1 => by
    have := opN_le s i
    rw [opN]
    split
    · dsimp only
      split <;> omega
    · split
      · dsimp only; omega
      · omega
theorem opN_40 {s : ByteArray} {i : Nat} (h : bt s i = 40) : opN s (i + 1) = ((opN s i).1 + 1, if (opN s i).2 < (opN s i).1 + 1 then (opN s i).1 + 1 else (opN s i).2) := by rw [opN, if_pos h]
theorem opN_41 {s : ByteArray} {i : Nat} (h : bt s i = 41) : opN s (i + 1) = ((opN s i).1 - 1, (opN s i).2) := by rw [opN, if_neg (by omega), if_pos h]
theorem opN_no {s : ByteArray} {i : Nat} (h : ¬ bt s i = 40) (h2 : ¬ bt s i = 41) : opN s (i + 1) = opN s i := by rw [opN, if_neg h, if_neg h2]
theorem print_len (x : Rx) : (printB x).size ≤ 35000 := by
  unfold printB
  split
  · rename_i h
    have hok := errE_ok.1 h
    have h1 := (wr_len x hok.right 0).2
    have h2 := hok.sz
    have h3 : (⟨(wr x 0).toArray⟩ : ByteArray).size = (wr x 0).length := zS_size _
    omega
  · decide
theorem print_no {x : Rx} (h : errE x ≠ 0) : printB x = ⟨#[]⟩ := by rw [printB, if_neg h]

theorem openC (s : ByteArray) (hs : s.size ≤ 1000000) : FnC Try.prog 18 [.str s] (fun r => r = iV (opN s s.size).2) := by
  refine FnC.of (fn := Try.f18) ⟨Try.func18, by kernel_rfl, rfl⟩ Try.ntmps18 (by simp) fun w0 S0 => ?_
  refine p_go ?_
  refine p_loopK [0] [] (fun st => ∃ i : Nat, (i ≤ s.size) ∧ st.env 3 = iV (opN s i).1 ∧ st.env 4 = iV (opN s i).2 ∧ st.env 5 = inV i) (fun st => s.size - (st.env 5).toN) ?_ fun e ob g1 hK hO hI => ?_
  · exact ⟨0, by omega, eV_, eV_, eV_⟩
  · obtain ⟨i, hi, e3, e4, e5⟩ := hI
    dsimp only at e3 e4 e5
    simp only [valsE, List.cons.injEq, and_true] at hK
    simp only [valsO, List.cons.injEq, and_true] at hO
    have hE := (⟨hK, hO, e3, e4, e5⟩ : _ ∧ _ ∧ _ ∧ _ ∧ _)
    refine p_go ?_
    refine p_splitC (s := 9) (ht := fun hc9 => ?_) (hf := fun hc9 => ?_)
    · have hlt : i < s.size := by simpa using hc9
      have hbd := opN_le s i
      refine p_go fun hf => ?_
      refine p_idxB (i) (hj := hlt) (h := ?_)
      refine p_go ?_
      refine p_splitC (s := 15) (ht := fun hc15 => ?_) (hf := fun hc15 => ?_)
      · have h40 : bt s i = 40 := by simpa using hc15
        have hst := opN_40 h40
        refine p_go fun hf => ?_
        refine p_add (r := ((opN s i).1 + 1)) (hr := (by first | omega | (simp only [decide_eq_true_eq, decide_eq_false_iff_not, Bool.or_eq_false_iff, Bool.and_eq_true, Bool.not_eq_true', Bool.not_eq_false'] at *; omega))) (hb := (by first | omega | (simp only [decide_eq_true_eq, decide_eq_false_iff_not, Bool.or_eq_false_iff, Bool.and_eq_true, Bool.not_eq_true', Bool.not_eq_false'] at *; omega))) (h := ?_)
        refine p_go fun hf => ?_
        refine p_max (h := ?_)
        refine p_go fun hf => ?_
        refine p_add (r := ((i + 1 : Nat) : Int)) (hr := (by first | omega | (simp only [decide_eq_true_eq, decide_eq_false_iff_not, Bool.or_eq_false_iff, Bool.and_eq_true, Bool.not_eq_true', Bool.not_eq_false'] at *; omega))) (hb := (by first | omega | (simp only [decide_eq_true_eq, decide_eq_false_iff_not, Bool.or_eq_false_iff, Bool.and_eq_true, Bool.not_eq_true', Bool.not_eq_false'] at *; omega))) (h := ?_)
        refine p_go ?_
        refine p_some ?_
        refine ⟨⟨(by simp (decide := true) only [valsE, evE, upd, cv, args0, argsFrom, List.length_map, ↓reduceIte, hE] <;> rfl), (by simp (decide := true) only [valsO, updO, upd, true_and, and_true, false_and, and_false, ↓reduceIte, hE] <;> rfl)⟩, ⟨i + 1, hlt, by rw [hst]; exact eV_, by rw [hst]; exact eV_, eV_⟩, ?_⟩
        simp (decide := true) only [upd, e5, V.toN, ↓reduceIte]; omega
      · have h40 : ¬ bt s i = 40 := by simpa using hc15
        refine p_go ?_
        refine p_splitC (s := 22) (ht := fun hc22 => ?_) (hf := fun hc22 => ?_)
        · have h41 : bt s i = 41 := by simpa using hc22
          have hst := opN_41 h41
          refine p_go fun hf => ?_
          refine p_sub (hr := rfl) (hb := by omega) (h := ?_)
          refine p_go fun hf => ?_
          refine p_add (r := ((i + 1 : Nat) : Int)) (hr := (by first | omega | (simp only [decide_eq_true_eq, decide_eq_false_iff_not, Bool.or_eq_false_iff, Bool.and_eq_true, Bool.not_eq_true', Bool.not_eq_false'] at *; omega))) (hb := (by first | omega | (simp only [decide_eq_true_eq, decide_eq_false_iff_not, Bool.or_eq_false_iff, Bool.and_eq_true, Bool.not_eq_true', Bool.not_eq_false'] at *; omega))) (h := ?_)
          refine p_go ?_
          refine p_some ?_
          refine ⟨⟨(by simp (decide := true) only [valsE, evE, upd, cv, args0, argsFrom, List.length_map, ↓reduceIte, hE] <;> rfl), (by simp (decide := true) only [valsO, updO, upd, true_and, and_true, false_and, and_false, ↓reduceIte, hE] <;> rfl)⟩, ⟨i + 1, hlt, by rw [hst]; exact eV_, by rw [hst]; exact eV_, eV_⟩, ?_⟩
          simp (decide := true) only [upd, e5, V.toN, ↓reduceIte]; omega
        · have h41 : ¬ bt s i = 41 := by simpa using hc22
          have hst := opN_no h40 h41
          refine p_go fun hf => ?_
          refine p_add (r := ((i + 1 : Nat) : Int)) (hr := (by first | omega | (simp only [decide_eq_true_eq, decide_eq_false_iff_not, Bool.or_eq_false_iff, Bool.and_eq_true, Bool.not_eq_true', Bool.not_eq_false'] at *; omega))) (hb := (by first | omega | (simp only [decide_eq_true_eq, decide_eq_false_iff_not, Bool.or_eq_false_iff, Bool.and_eq_true, Bool.not_eq_true', Bool.not_eq_false'] at *; omega))) (h := ?_)
          refine p_go ?_
          refine p_some ?_
          refine ⟨⟨(by simp (decide := true) only [valsE, evE, upd, cv, args0, argsFrom, List.length_map, ↓reduceIte, hE] <;> rfl), (by simp (decide := true) only [valsO, updO, upd, true_and, and_true, false_and, and_false, ↓reduceIte, hE] <;> rfl)⟩, ⟨i + 1, hlt, by rw [hst]; exact eV_, by rw [hst]; exact eV_, eV_⟩, ?_⟩
          simp (decide := true) only [upd, e5, V.toN, ↓reduceIte]; omega
    · have hge : ¬ i < s.size := by simpa using hc9
      obtain rfl : i = s.size := by omega
      refine p_go ?_
      refine p_ret1 (hp := by rfl)

theorem Sm_of_parse (s : ByteArray) (hs : s.size ≤ 1000000000) : (parseV s).1.Sm := by
  refine Sm_of_sz _ ?_
  unfold parseV
  split
  · rw [zeroR, Rx.sz, Rx.szL]; omega
  · have h := (pr_le s (5 * s.size + 4)).1 0 0 false (Nat.zero_le _)
    split
    · rw [zeroR, Rx.sz, Rx.szL]; omega
    · rename_i hp
      rw [hp] at h
      obtain ⟨h1, h2, h3⟩ := h
      split
      · rw [zeroR, Rx.sz, Rx.szL]; omega
      · split
        · rw [zeroR, Rx.sz, Rx.szL]; omega
        · dsimp only; omega

theorem regexBack (x : Rx) (hx : x.Sm) : FnC Try.prog 5 [rxA x] (fun r => r = .bool true) := by
  refine FnC.of (fn := Try.f5) ⟨Try.func5, by kernel_rfl, rfl⟩ Try.ntmps5 (by simp) fun w0 S0 => ?_
  refine p_go fun hf => ?_
  refine p_call (hx := rfl) (hb := ⟨Try.func16, by kernel_rfl, rfl⟩) (hf := printP x hx) (h := ?_)
  refine p_go ?_
  refine p_splitC (s := 16) (ht := fun hc16 => ?_) (hf := fun hc16 => ?_)
  · have he : errE x ≠ 0 := by simpa using hc16
    refine p_go fun hf => ?_
    refine p_strOp (h := ?_)
    refine p_go fun hf => ?_
    refine p_split (s := 19) (ht := fun hb19 => ?_) (hf := fun hb19 => ?_)
    · -- slot 19 is true
      refine p_go fun hf => ?_
      refine p_call (hx := rfl) (hb := ⟨Try.func12, by kernel_rfl, rfl⟩) (hf := alive07) (h := ?_)
      refine p_go ?_
      refine p_ret1 (hp := by rfl)
    · exact absurd hb19 (by rw [print_no he]; simp)
  · have he : errE x = 0 := by simpa using hc16
    have hpl := print_len x
    have hsmp : (parseV (printB x)).1.Sm := Sm_of_parse (printB x) (by omega)
    refine p_go fun hf => ?_
    refine p_call (hx := rfl) (hb := ⟨Try.func17, by kernel_rfl, rfl⟩) (hf := printR x hx) (h := ?_)
    refine p_go fun hf => ?_
    refine p_callP ([(0 + 1, 1)]) (hf := parseP (printB x) (by omega)) (hg := by simp) (hos := by simp) (hp := fun x9 o9 h9 hg9 hlw9 hos9 hR9 => hR9.elim) (h := fun r o1 h1 hg1 hlw1 hos1 hR1 => ?_)
    obtain rfl := hR1
    simp only [valsO, List.cons.injEq, and_true] at hos1
    have hE := hos1
    refine p_bump fun hf => ?_
    refine p_go fun hf => ?_
    refine p_call (hx := rfl) (hb := ⟨Try.func18, by kernel_rfl, rfl⟩) (hf := openC (printB x) (by omega)) (h := ?_)
    refine p_go ?_
    refine p_splitC (s := 40) (ht := fun hc40 => ?_) (hf := fun hc40 => ?_)
    · refine p_go fun hf => ?_
      refine p_call (hx := rfl) (hb := ⟨Try.func12, by kernel_rfl, rfl⟩) (hf := alive07) (h := ?_)
      refine p_go ?_
      refine p_ret1 (hp := by rfl)
    · have hsz : (printB x).size ≤ 10000 := by have := hc40; simp at this; omega
      have hpp := parse_print he hsz
      refine p_go fun hf => ?_
      refine p_split (s := 44) (ht := fun hb44 => ?_) (hf := fun hb44 => ?_)
      · -- slot 44 is true
        refine p_go fun hf => ?_
        refine p_call (hx := rfl) (hb := ⟨Try.func11, by kernel_rfl, rfl⟩) (hf := sameR (parseV (printB x)).1 hsmp x hx) (h := ?_)
        refine p_go fun hf => ?_
        refine p_split (s := 49) (ht := fun hb49 => ?_) (hf := fun hb49 => ?_)
        · -- slot 49 is true
          refine p_go fun hf => ?_
          refine p_call (hx := rfl) (hb := ⟨Try.func12, by kernel_rfl, rfl⟩) (hf := alive07) (h := ?_)
          refine p_go ?_
          refine p_ret1 (hp := by rfl)
        · exact absurd hb49 (by rw [hpp, eqB_self]; simp)
      · exact absurd hb44 (by rw [hpp]; simp)
end Go.Proofs.Ytjdhkopjigijfaa
