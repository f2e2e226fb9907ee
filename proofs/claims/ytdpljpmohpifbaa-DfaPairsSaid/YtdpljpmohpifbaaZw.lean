/-
  Plain law: automata that take the same words have the same least automaton.
-/
import Derived.Test.YtdpljpmohpifbaaZv
set_option linter.unusedSimpArgs false
set_option linter.unusedVariables false
namespace Go.Proofs.Ytdpljpmohpifbaa
open Go.RowKit
namespace Dfa
variable {d a b : Dfa}
theorem run_app (d : Dfa) : ∀ (w v : List Int) (s : Nat), d.run s (w ++ v) = d.run (d.run s w) v
  | [], _, _ => rfl
  | x :: w, v, s => run_app d w v _
theorem fitsW_app {w v : List Int} (hw : d.fitsW w) (hv : d.fitsW v) : d.fitsW (w ++ v) := fun x hx => by
  rcases List.mem_append.1 hx with h | h
  · exact hw x h
  · exact hv x h
theorem cls_lang (h : d.Ok) : ∀ (w : List Int) (i j : Nat), i < d.n → j < d.n → d.cls i = d.cls j → d.fitsW w → d.ac (d.run i w) = d.ac (d.run j w)
  | [], _, _, hi, hj, he, _ => cls_ac hi hj he
  | x :: w, i, j, hi, hj, he, hw => by
    have hx := hw x (by simp)
    exact cls_lang h w _ _ (h.nx_lt hi (by omega)) (h.nx_lt hj (by omega)) (cls_nx h hi hj (by omega) he) fun y hy => hw y (by simp [hy])
theorem lang_ofs (h : d.Ok) : ∀ (k i j : Nat), i < d.n → j < d.n → (∀ w, d.fitsW w → d.ac (d.run i w) = d.ac (d.run j w)) → d.ofs k i = d.ofs k j
  | 0, i, j, _, _, hw => by
    have := hw [] fun x hx => by simp at hx
    simp only [run] at this
    simp only [ofs, this]
  | k + 1, i, j, hi, hj, hw => by
    simp only [ofs]
    refine (rank_eq _ hi hj).2 ?_
    have hil := h.row_len hi
    have hjl := h.row_len hj
    rw [sig, sig, lang_ofs h k i j hi hj hw]
    congr 1
    refine List.ext_getElem (by simp; omega) fun q h1 h2 => ?_
    simp only [List.length_map] at h1 h2
    simp only [List.getElem_map]
    have e1 : (d.row i)[q].toNat = d.nx i q := by simp [nx, List.getD, h1]
    have e2 : (d.row j)[q].toNat = d.nx j q := by simp [nx, List.getD, h2]
    rw [e1, e2]
    have hq : (q : Int) < d.sym := by omega
    refine lang_ofs h k _ _ (h.nx_lt hi hq) (h.nx_lt hj hq) fun w hf => ?_
    have := hw ((q : Int) :: w) fun x hx => by
      rcases List.mem_cons.1 hx with rfl | hx
      · omega
      · exact hf x hx
    simpa only [run, Int.toNat_natCast] using this
theorem lang_cls (h : d.Ok) {i j : Nat} (hi : i < d.n) (hj : j < d.n) (hw : ∀ w, d.fitsW w → d.ac (d.run i w) = d.ac (d.run j w)) : d.cls i = d.cls j := lang_ofs h _ i j hi hj hw
/-- The classes behind words. -/
def Rch (d : Dfa) (c : Nat) : Prop := ∃ w, d.fitsW w ∧ c = d.cls (d.run 0 w)
theorem same_cls (ha : a.Ok) (hb : b.Ok) (hs : a.sym = b.sym) (h : ∀ w, a.fitsW w → a.takes w = b.takes w) {w v : List Int} (hw : a.fitsW w) (hv : a.fitsW v) (he : a.cls (a.run 0 w) = a.cls (a.run 0 v)) : b.cls (b.run 0 w) = b.cls (b.run 0 v) := by
  have hab : ∀ u, a.fitsW u → b.fitsW u := fun u hu x hx => by rw [← hs]; exact hu x hx
  have hba : ∀ u, b.fitsW u → a.fitsW u := fun u hu x hx => by rw [hs]; exact hu x hx
  refine lang_cls hb (run_lt hb _ 0 hb.n0 (hab _ hw)) (run_lt hb _ 0 hb.n0 (hab _ hv)) fun u hu => ?_
  have h1 := cls_lang ha u _ _ (run_lt ha w 0 ha.n0 hw) (run_lt ha v 0 ha.n0 hv) he (hba u hu)
  rw [← run_app, ← run_app] at h1 ⊢
  have h2 := h _ (fitsW_app hw (hba u hu))
  have h3 := h _ (fitsW_app hv (hba u hu))
  simp only [takes] at h2 h3
  rw [← h2, ← h3, h1]
end Dfa
theorem grown_most {κ : Type} [DecidableEq κ] {nxt : κ → Nat → κ} {acc : κ → Bool} {start : κ} {m most most' : Nat} (h : ∀ i, (metAt nxt start m i).1.length ≤ most) (h' : ∀ i, (metAt nxt start m i).1.length ≤ most') : grown nxt acc start m most = grown nxt acc start m most' := by
  obtain ⟨i, h1, h2, h3, h4⟩ := grown_end (acc := acc) h
  rw [h4, grown_is h2 (by omega) (by have := h' i; omega)]
namespace Dfa
variable {d a b : Dfa}
open Classical in
/-- The class of b that answers a's. -/
noncomputable def toB (a b : Dfa) (c : Nat) : Nat := if h : a.Rch c then b.cls (b.run 0 (Classical.choose h)) else 0
theorem toB_is (ha : a.Ok) (hb : b.Ok) (hs : a.sym = b.sym) (h : ∀ w, a.fitsW w → a.takes w = b.takes w) {w : List Int} (hw : a.fitsW w) : toB a b (a.cls (a.run 0 w)) = b.cls (b.run 0 w) := by
  have hr : a.Rch (a.cls (a.run 0 w)) := ⟨w, hw, rfl⟩
  rw [toB, dif_pos hr]
  have := Classical.choose_spec hr
  exact same_cls ha hb hs h this.1 hw this.2.symm
/-- Automata that take the same words have the same least one. -/
theorem least_same (ha : a.Ok) (hb : b.Ok) (hs : a.sym = b.sym) (h : ∀ w, a.fitsW w → a.takes w = b.takes w) : a.leastR = b.leastR := by
  have hs0 := ha.sym0
  have hab : ∀ u, a.fitsW u → b.fitsW u := fun u hu x hx => by rw [← hs]; exact hu x hx
  have hm : ∀ i, (metAt a.nextC (a.cls 0) a.sym.toNat i).1.length ≤ a.n + b.n := fun i => Nat.le_trans (least_len ha i) (Nat.le_add_right _ _)
  have hm' : ∀ i, (metAt b.nextC (b.cls 0) b.sym.toNat i).1.length ≤ a.n + b.n := fun i => Nat.le_trans (least_len hb i) (Nat.le_add_left _ _)
  rw [leastC ha, leastC hb, grown_most (least_len ha) hm, grown_most (least_len hb) hm', ← hs]
  have hback : ∀ w, b.fitsW w → b.takes w = a.takes w := fun w hw => (h w fun x hx => by rw [hs]; exact hw x hx).symm
  symm
  refine grown_map (toB a b) (p := a.Rch) (fun c c' hc hc' he => ?_) ⟨[], fun x hx => by simp at hx, rfl⟩ ?_ (fun c k hc hk => ?_) (fun c hc => ?_)
  · obtain ⟨w, hw, rfl⟩ := hc
    obtain ⟨v, hv, rfl⟩ := hc'
    rw [toB_is ha hb hs h hw, toB_is ha hb hs h hv] at he
    exact same_cls hb ha hs.symm hback (hab _ hw) (hab _ hv) he
  · exact (toB_is ha hb hs h (w := []) fun x hx => by simp at hx).symm
  · obtain ⟨w, hw, rfl⟩ := hc
    have hk' : (k : Int) < a.sym := by omega
    have hwk : a.fitsW (w ++ [(k : Int)]) := fitsW_app hw fun x hx => by rw [List.mem_singleton.1 hx]; omega
    have e1 : a.nextC (a.cls (a.run 0 w)) k = a.cls (a.run 0 (w ++ [(k : Int)])) := by
      rw [nextC_is ha (run_lt ha w 0 ha.n0 hw) hk', run_more, Int.toNat_natCast]
    have e2 : b.nextC (b.cls (b.run 0 w)) k = b.cls (b.run 0 (w ++ [(k : Int)])) := by
      rw [nextC_is hb (run_lt hb w 0 hb.n0 (hab _ hw)) (by omega), run_more, Int.toNat_natCast]
    rw [e1, toB_is ha hb hs h hw, toB_is ha hb hs h hwk]
    exact ⟨⟨_, hwk, rfl⟩, e2⟩
  · obtain ⟨w, hw, rfl⟩ := hc
    rw [toB_is ha hb hs h hw, accC_is (run_lt hb w 0 hb.n0 (hab _ hw)), accC_is (run_lt ha w 0 ha.n0 hw)]
    exact (h w hw).symm
theorem same_iff (ha : a.Ok) (hb : b.Ok) (hs : a.sym = b.sym) : sameD a.leastR b.leastR = true ↔ ∀ w, a.fitsW w → a.takes w = b.takes w := by
  constructor
  · intro h w hw
    have he : a.leastR = b.leastR := by
      simp only [sameD, Bool.and_eq_true, decide_eq_true_eq] at h
      obtain ⟨h1, h2, h3⟩ := h
      cases hx : a.leastR; cases hy : b.leastR
      rw [hx, hy] at h1 h2 h3
      simp_all
    rw [← least_takes ha hw, ← least_takes hb (by intro x hx; rw [← hs]; exact hw x hx), he]
  · intro h
    rw [least_same ha hb hs h]; exact sameD_refl _
theorem not_not (h : d.Ok) : d.notR.notR = d.leastR := by
  obtain ⟨n1, n2, n3⟩ := leastR_ok h.flip
  have hk : d.notR.Ok := n1
  have hsn : d.notR.sym = d.sym := n3
  refine least_same hk.flip h hsn fun w hw => ?_
  have hw' : d.fitsW w := fun x hx => by rw [← hsn]; exact hw x hx
  rw [flip_takes hk (by intro x hx; rw [hsn]; exact hw' x hx), show d.notR.takes w = d.flip.leastR.takes w from rfl, least_takes h.flip hw', flip_takes h hw', Bool.not_not]
/-- All words of a are those of b. -/
def withinB (a b : Dfa) : Bool := !(firstR (pairsR a b.notR true)).2
theorem within_ok (ha : a.Ok) (hb : b.Ok) (hs : a.sym = b.sym) (hn : a.n * b.n ≤ 1024) : b.notR.Ok ∧ b.notR.sym = a.sym ∧ a.n * b.notR.n ≤ 1024 ∧ (pairsR a b.notR true).Ok ∧ (pairsR a b.notR true).sym = a.sym := by
  obtain ⟨n1, n2, n3⟩ := leastR_ok hb.flip
  have hsn : b.notR.sym = a.sym := by rw [hs]; exact n3
  have hle : a.n * b.notR.n ≤ a.n * b.n := Nat.mul_le_mul_left _ n2
  obtain ⟨p1, p2, p3⟩ := pairs_ok (both := true) ha n1 (by rw [show b.flip.leastR.sym = b.notR.sym from rfl, hsn]) (show a.n * b.flip.leastR.n ≤ 1024 from Nat.le_trans hle hn)
  exact ⟨n1, hsn, Nat.le_trans hle hn, p1, p3⟩
theorem within_takes (ha : a.Ok) (hb : b.Ok) (hs : a.sym = b.sym) {w : List Int} (hw : a.fitsW w) : (pairsR a b.notR true).takes w = (a.takes w && !b.takes w) := by
  obtain ⟨n1, n2, n3⟩ := leastR_ok hb.flip
  have hbw : b.fitsW w := fun x hx => by rw [← hs]; exact hw x hx
  rw [pairs_takes (b := b.notR) ha n1 (by rw [hs]; exact n3.symm) true hw, show b.notR.takes w = b.flip.leastR.takes w from rfl, least_takes hb.flip hbw, flip_takes hb hbw]
  simp
theorem within_iff (ha : a.Ok) (hb : b.Ok) (hs : a.sym = b.sym) (hn : a.n * b.n ≤ 1024) : withinB a b = true ↔ ∀ w, a.fitsW w → a.takes w = true → b.takes w = true := by
  obtain ⟨o1, o2, o3, o4, o5⟩ := within_ok ha hb hs hn
  rw [withinB, Bool.not_eq_true', first_none_iff o4]
  have hf : ∀ w, fitsW (pairsR a b.notR true) w ↔ a.fitsW w := fun w => by simp only [fitsW, o5]
  constructor
  · intro h w hw hta
    have := h w ((hf w).2 hw)
    rw [within_takes ha hb hs hw, hta] at this
    simpa using this
  · intro h w hw
    have hw' := (hf w).1 hw
    rw [within_takes ha hb hs hw']
    cases hta : a.takes w with
    | false => rfl
    | true => rw [h w hw' hta]; rfl
theorem both_within (ha : a.Ok) (hb : b.Ok) (hs : a.sym = b.sym) (hn : a.n * b.n ≤ 1024) : (withinB a b && withinB b a) = sameD a.leastR b.leastR := by
  have hn' : b.n * a.n ≤ 1024 := by rw [Nat.mul_comm]; exact hn
  rw [Bool.eq_iff_iff, Bool.and_eq_true, within_iff ha hb hs hn, within_iff hb ha hs.symm hn', same_iff ha hb hs]
  have hab : ∀ u, a.fitsW u → b.fitsW u := fun u hu x hx => by rw [← hs]; exact hu x hx
  constructor
  · rintro ⟨h1, h2⟩ w hw
    have k1 := h1 w hw
    have k2 := h2 w (hab w hw)
    cases hta : a.takes w <;> cases htb : b.takes w <;> simp_all
  · intro h
    refine ⟨fun w hw ht => by rw [← h w hw]; exact ht, fun w hw ht => ?_⟩
    rw [h w fun x hx => by rw [hs]; exact hw x hx]; exact ht
end Dfa
end Go.Proofs.Ytdpljpmohpifbaa
