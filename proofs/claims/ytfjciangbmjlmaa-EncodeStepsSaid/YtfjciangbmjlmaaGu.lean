/-
  The reference's Next on a system of mere reachability, walked.
-/
import Derived.Test.YtfjciangbmjlmaaGt
set_option linter.unusedSimpArgs false
set_option linter.unusedVariables false
namespace Go.Proofs.Ytfjciangbmjlmaa
open Go.RowKit
def byR (c : Conf) (ru : Rule) : Conf := ⟨0, ru.w ++ c.w.drop 1⟩
def nextR (rs : List Rule) (c : Conf) : List Conf := (rs.filter fun ru => appliesR ru c).map (byR c)
def nextAt (rs : List Rule) (c : Conf) (i : Nat) : List Conf := nextR (rs.take i) c
def idxAt (rs : List Rule) (c : Conf) (i : Nat) : List Int := ((List.range i).filter fun k => (rs[k]?).any fun ru => appliesR ru c).map fun k : Nat => (k : Int)
theorem next_hit {rs : List Rule} {c : Conf} {i : Nat} (h : i < rs.length) (ha : appliesR rs[i] c = true) : nextAt rs c (i + 1) = nextAt rs c i ++ [byR c rs[i]] ∧ idxAt rs c (i + 1) = idxAt rs c i ++ [(i : Int)] := by
  constructor
  · simp only [nextAt, nextR, List.take_add_one, List.getElem?_eq_getElem h, Option.toList_some, List.filter_append, List.map_append, List.filter_cons, ha, ↓reduceIte, List.filter_nil, List.map_cons, List.map_nil, Bool.false_eq_true, List.append_nil]
  · simp only [idxAt, List.range_succ, List.getElem?_eq_getElem h, Option.any_some, List.filter_append, List.map_append, List.filter_cons, ha, ↓reduceIte, List.filter_nil, List.map_cons, List.map_nil, Bool.false_eq_true, List.append_nil]
theorem next_miss {rs : List Rule} {c : Conf} {i : Nat} (h : i < rs.length) (ha : appliesR rs[i] c = false) : nextAt rs c (i + 1) = nextAt rs c i ∧ idxAt rs c (i + 1) = idxAt rs c i := by
  constructor
  · simp only [nextAt, nextR, List.take_add_one, List.getElem?_eq_getElem h, Option.toList_some, List.filter_append, List.map_append, List.filter_cons, ha, ↓reduceIte, List.filter_nil, List.map_cons, List.map_nil, Bool.false_eq_true, List.append_nil]
  · simp only [idxAt, List.range_succ, List.getElem?_eq_getElem h, Option.any_some, List.filter_append, List.map_append, List.filter_cons, ha, ↓reduceIte, List.filter_nil, List.map_cons, List.map_nil, Bool.false_eq_true, List.append_nil]
theorem next_len {rs : List Rule} {c : Conf} {i : Nat} : (nextAt rs c i).length ≤ i := by
  simp only [nextAt, nextR, List.length_map]; exact Nat.le_trans (List.length_filter_le ..) (by simp; omega)
theorem idx_len {rs : List Rule} {c : Conf} {i : Nat} : (idxAt rs c i).length ≤ i := by
  simp only [idxAt, List.length_map]; exact Nat.le_trans (List.length_filter_le ..) (by simp)
theorem applies_pos {ru : Rule} {c : Conf} (h : (!appliesR ru c) = false) : appliesR ru c = true ∧ 0 < c.w.length := by
  have h1 : appliesR ru c = true := by simpa using h
  refine ⟨h1, ?_⟩
  simp [appliesR] at h1
  cases hw : c.w with
  | nil => rw [hw] at h1; simp at h1
  | cons _ _ => simp

theorem next12 (n : Int) (rs : List Rule) (c : Conf) (h : ∀ r ∈ rs, ruleOk n r) (hn : 0 ≤ n ∧ n ≤ 4096) (hl : rs.length ≤ 16384) (hc : confOk n c) (hs : ∀ r ∈ rs, r.w.length + c.w.length ≤ 4096) : FnC Try.prog 12 [pdsW n rs, confV c] (fun r => r = .tup [.sl 3 ((idxAt rs c rs.length).map iV), .sl 44 ((nextR rs c).map confV), iV 0]) := by
  refine FnC.of (fn := Try.f12) ⟨Try.func12, by kernel_rfl, rfl⟩ Try.ntmps12 (by simp) fun w0 S0 => ?_
  refine p_seq (p_region fun hf => ?_)
  refine p_box (h := ?_)
  refine p_box (h := ?_)
  refine p_assign (h := ?_)
  refine p_assign (h := ?_)
  refine p_assign (h := ?_)
  refine p_end ?_
  refine p_seq (p_region fun hf => ?_)
  (first | refine p_loadA (ht := F.agg38) (hi := F.ti38) (h := ?_) | refine p_loadRefA (ht := F.agg38) (hi := F.ti38) (h := ?_))
  (first | refine p_loadA (ht := F.agg44) (hi := F.ti44) (h := ?_) | refine p_loadRefA (ht := F.agg44) (hi := F.ti44) (h := ?_))
  refine p_call (hx := rfl) (hb := ⟨Try.func31, by kernel_rfl, rfl⟩) (hf := check12 n rs c h hn hl hc) (h := ?_)
  refine p_assign (h := ?_)
  refine p_end ?_
  refine p_seq ?_
  refine p_seq (p_region fun hf => ?_)
  refine p_move (h := ?_)
  refine p_num (h := ?_)
  refine p_end ?_
  refine p_isC (s := 16) (b := false) (hc := by first | rfl | decide | simp) (h := ?_)
  refine p_condF (h := ?_)
  refine p_skip ?_
  refine p_seq (p_region fun hf => ?_)
  refine p_assign (h := ?_)
  refine p_end ?_
  refine p_seq (p_region fun hf => ?_)
  refine p_assign (h := ?_)
  refine p_end ?_
  refine p_seq ?_
  refine p_seq (p_region fun hf => ?_)
  refine p_assign (h := ?_)
  refine p_end ?_
  refine p_nilSlot (s := 8) (el := 3) 45 (h := ?_)
  refine p_nilSlot (s := 9) (el := 44) 49 (h := ?_)
  refine TrC.block ?_
  refine p_loop (fun st => ∃ (i r q : Nat), i ≤ rs.length ∧ st.env 2 = .ptr (0 + 1) 2 0 ∧ st.env 3 = .ptr (0 + 1) 3 0 ∧ st.env 8 = .row r 45 (idxAt rs c i).length ∧ st.env 9 = .row q 49 (nextAt rs c i).length ∧ st.env 10 = iV i ∧ st.obj (0 + 1) 2 = .cells 38 [iV 1, iV 0, .nil, iV 1, iV n, .sl 92 (rs.map ruleW)] ∧ st.obj (0 + 1) 3 = .cells 44 [iV c.p, .sl 3 (c.w.map iV)] ∧ st.obj r 45 = .row 3 ((idxAt rs c i).map iV) ∧ st.obj q 49 = .row 44 ((nextAt rs c i).map confV)) (fun st => rs.length - (st.env 10).toN) ?_ fun e ob g1 hI => ?_
  · exact ⟨0, _, _, by omega, eV_, eV_, eV_, eV_, eV_, oB_, oB_, oB_, oB_⟩
  · obtain ⟨i, r, q, hi, e2, e3, e8, e9, e10, o2, o3, o45, o49⟩ := hI
    dsimp only at e2 e3 e8 e9 e10 o2 o3 o45 o49
    have hE := (⟨e2, e3, e8, e9, e10, o2, o3, o45, o49⟩ : _ ∧ _ ∧ _ ∧ _ ∧ _ ∧ _ ∧ _ ∧ _ ∧ _)
    refine p_seq ?_
    refine p_seq (p_region fun hf => ?_)
    refine p_move (h := ?_)
    (first | refine p_fieldPtr (hf := F.fld38_3) (h := ?_) | refine p_fieldRef (hf := F.fld38_3) (h := ?_) | refine p_fieldRow (hf := F.fld38_3) (h := ?_))
    (first | refine p_load (ht := F.leaf36) (h := ?_) | refine p_loadRef (ht := F.leaf36) (h := ?_))
    refine p_len (ht := Try.underlying36) (h := ?_)
    refine p_num (h := ?_)
    refine p_end ?_
    refine p_splitC (s := 22) (ht := fun hc22 => ?_) (hf := fun hc22 => ?_)
    · refine p_condT (h := ?_)
      have hlt : i < rs.length := by simpa using hc22
      refine p_skip ?_
      refine p_seq ?_
      refine TrC.block ?_
      refine p_seq ?_
      refine p_seq (p_draw F.mixed fun hf => ?_)
      (first | refine p_fieldPtr (hf := F.fld38_3) (h := ?_) | refine p_fieldRef (hf := F.fld38_3) (h := ?_) | refine p_fieldRow (hf := F.fld38_3) (h := ?_))
      (first | refine p_load (ht := F.leaf36) (h := ?_) | refine p_loadRef (ht := F.leaf36) (h := ?_))
      refine p_move (h := ?_)
      refine p_idxMap (j := i) (ht := Try.underlying36) (hi := F.ti92) (hij := rfl) (hj := hlt) (h := ?_)
      (first | refine p_loadA (ht := F.agg92) (hi := F.ti92) (h := ?_) | refine p_loadRefA (ht := F.agg92) (hi := F.ti92) (h := ?_))
      (first | refine p_loadA (ht := F.agg44) (hi := F.ti44) (h := ?_) | refine p_loadRefA (ht := F.agg44) (hi := F.ti44) (h := ?_))
      refine p_call (hx := rfl) (hb := ⟨Try.func32, by kernel_rfl, rfl⟩) (hf := applies12 rs[i] c) (h := ?_)
      refine p_not (h := ?_)
      refine p_endD ?_
      refine p_splitC (s := 32) (ht := fun hc32 => ?_) (hf := fun hc32 => ?_)
      · refine p_condT (h := ?_)
        refine p_exit ?_
        refine p_region fun hf => ?_
        refine p_move (h := ?_)
        refine p_add (r := ((i + 1 : Nat) : Int)) (hr := by omega) (hb := by omega) (h := ?_)
        refine p_assign (h := ?_)
        refine p_end ?_
        refine p_some ?_
        refine ⟨⟨i + 1, _, _, hlt, eV_, eV_, by rw [(next_miss hlt (by simpa using hc32)).2]; exact eV_, by rw [(next_miss hlt (by simpa using hc32)).1]; exact eV_, eV_, oB_, oB_, by rw [(next_miss hlt (by simpa using hc32)).2]; exact oB_, by rw [(next_miss hlt (by simpa using hc32)).1]; exact oB_⟩, ?_⟩
        simp (decide := true) only [upd, e10, V.toN, ↓reduceIte]; omega
      · refine p_condF (h := ?_)
        have hpos := applies_pos hc32
        refine p_skip ?_
        refine p_seq (p_draw F.mixed fun hf => ?_)
        (first | refine p_fieldPtr (hf := F.fld38_3) (h := ?_) | refine p_fieldRef (hf := F.fld38_3) (h := ?_) | refine p_fieldRow (hf := F.fld38_3) (h := ?_))
        (first | refine p_load (ht := F.leaf36) (h := ?_) | refine p_loadRef (ht := F.leaf36) (h := ?_))
        refine p_move (h := ?_)
        refine p_idxMap (j := i) (ht := Try.underlying36) (hi := F.ti92) (hij := rfl) (hj := hlt) (h := ?_)
        (first | refine p_loadA (ht := F.agg92) (hi := F.ti92) (h := ?_) | refine p_loadRefA (ht := F.agg92) (hi := F.ti92) (h := ?_))
        (first | refine p_loadA (ht := F.agg44) (hi := F.ti44) (h := ?_) | refine p_loadRefA (ht := F.agg44) (hi := F.ti44) (h := ?_))
        refine p_call (hx := rfl) (hb := ⟨Try.func33, by kernel_rfl, rfl⟩) (hf := by12 rs[i] c hpos.2 (by have := hs _ (List.getElem_mem hlt); omega)) (h := ?_)
        refine p_alloc (hi := F.ti44) (h := ?_)
        refine p_storeAll F.ti44 (h := ?_)
        refine p_endD ?_
        refine p_seq ?_
        refine p_seq (p_region fun hf => ?_)
        (first | refine p_loadA (ht := F.agg44) (hi := F.ti44) (h := ?_) | refine p_loadRefA (ht := F.agg44) (hi := F.ti44) (h := ?_))
        refine p_call (hx := rfl) (hb := ⟨Try.func34, by kernel_rfl, rfl⟩) (hf := long12 (byR c rs[i])) (h := ?_)
        refine p_end ?_
        refine p_isC (s := 41) (b := false) (hc := by have := hs _ (List.getElem_mem hlt); simp [byR]; omega) (h := ?_)
        refine p_condF (h := ?_)
        refine p_skip ?_
        refine p_draw F.mixed fun hf => ?_
        refine p_move (h := ?_)
        refine p_move (h := ?_)
        refine p_buildSlice (ht := Try.underlying23) (hi := F.ti3) (h := ?_)
        refine p_append (k := (idxAt rs c i).length + 1) (ht := Try.underlying23) (hi := F.ti3) (hnl := by simp) (hy := by exact ⟨.inl oB_, rfl⟩) (hm := by simp) (hlim := by have := idx_len (rs := rs) (c := c) (i := i); have := next_len (rs := rs) (c := c) (i := i); omega) (h := ?_)
        refine p_move (h := ?_)
        (first | refine p_loadA (ht := F.agg44) (hi := F.ti44) (h := ?_) | refine p_loadRefA (ht := F.agg44) (hi := F.ti44) (h := ?_))
        refine p_buildSlice (ht := Try.underlying47) (hi := F.ti44) (h := ?_)
        refine p_append (k := (nextAt rs c i).length + 1) (ht := Try.underlying47) (hi := F.ti44) (hnl := by simp) (hy := by exact ⟨.inl oB_, rfl⟩) (hm := by simp) (hlim := by have := idx_len (rs := rs) (c := c) (i := i); have := next_len (rs := rs) (c := c) (i := i); omega) (h := ?_)
        refine p_assign (h := ?_)
        refine p_assign (h := ?_)
        refine p_endD ?_
        refine p_region fun hf => ?_
        refine p_move (h := ?_)
        refine p_add (r := ((i + 1 : Nat) : Int)) (hr := by omega) (hb := by omega) (h := ?_)
        refine p_assign (h := ?_)
        refine p_end ?_
        refine p_some ?_
        have hx := next_hit hlt hpos.1
        refine ⟨⟨i + 1, _, _, hlt, eV_, eV_, by rw [hx.2, List.length_append]; exact eV_, by rw [hx.1, List.length_append]; exact eV_, eV_, oB_, oB_, by refine Eq.trans oB_ ?_; rw [hx.2]; simp only [List.map_append]; rfl, by refine Eq.trans oB_ ?_; rw [hx.1]; simp [byR, confV]⟩, ?_⟩
        simp (decide := true) only [upd, e10, V.toN, ↓reduceIte]; omega
    · refine p_condF (h := ?_)
      refine p_exit ?_
      refine p_seq (p_region fun hf => ?_)
      refine p_move (h := ?_)
      refine p_move (h := ?_)
      refine p_assign (h := ?_)
      refine p_assign (h := ?_)
      refine p_assign (h := ?_)
      refine p_end ?_
      refine TrC.ret ?_
      refine p_freeze (g1 := r) (d1 := 45) (h := ?_)
      refine p_freeze (g1 := q) (d1 := 49) (h := ?_)
      refine p_toSl (s := 4) (hn := by simp) (h := ?_)
      refine p_toSl (s := 5) (hn := by simp) (h := ?_)
      refine p_rets3 rfl ⟨eV_, rfl⟩ ⟨eV_, rfl⟩ ⟨eV_, rfl⟩ (by have hie : i = rs.length := (by simp at hc22; omega); subst hie; simp [nextAt, iV])

end Go.Proofs.Ytfjciangbmjlmaa
