/-
  encode.backs, walked.
-/
import Derived.Test.YtfjciangbmjlmaaGf
set_option linter.unusedSimpArgs false
set_option linter.unusedVariables false
namespace Go.Proofs.Ytfjciangbmjlmaa
open Go.RowKit
def intsI (l : List (Int × Int)) : MP := .ints (l.map fun p => (p.1, Value.int .i64 p.2))
theorem mget_map {κ β γ : Type} [DecidableEq κ] (f : β → γ) (k : κ) : ∀ l : List (κ × β), mget k (l.map fun p => (p.1, f p.2)) = (mget k l).map f
  | [] => rfl
  | (q, u) :: l => by
    simp only [List.map_cons, mget]
    split
    · rfl
    · exact mget_map f k l
theorem mput_map {κ β γ : Type} [DecidableEq κ] (f : β → γ) (k : κ) (v : β) : ∀ l : List (κ × β), mput k (f v) (l.map fun p => (p.1, f p.2)) = (mput k v l).map fun p => (p.1, f p.2)
  | [] => rfl
  | (q, u) :: l => by
    simp only [List.map_cons, mput]
    split
    · rfl
    · simp only [List.map_cons]; rw [mput_map f k v l]
theorem intsI_get (l : List (Int × Int)) (k : Int) : (intsI l).get (.int k) = (mget k l).map (Value.int .i64) := mget_map _ _ _
theorem intsI_put (l : List (Int × Int)) (k v : Int) : (intsI l).put (.int k) (.int .i64 v) = intsI (mput k v l) := by
  unfold intsI MP.put
  exact congrArg MP.ints (mput_map (Value.int .i64) k v l)
theorem look_int (l : List (Int × Int)) (k : Int) : (if true = true then V.tup [cv (((intsI l).get (.int k)).getD (.int .i64 0)), .bool ((intsI l).get (.int k)).isSome] else cv (((intsI l).get (.int k)).getD (.int .i64 0))) = .tup [iV ((mget k l).getD 0), .bool (mget k l).isSome] := by
  rw [if_pos rfl, intsI_get]
  cases mget k l <;> rfl
def siteN (G : Graph) (i : Nat) : Site := (G.sites[i]?).getD ⟨ByteArray.empty, 0, 0, 0⟩
theorem siteN_eq {G : Graph} {i : Nat} (h : i < G.sites.length) : G.sites[i] = siteN G i := by simp [siteN, h]
/-- Of the first sites: the nodes behind them, each with the first of its sites. -/
def backsAt (G : Graph) : Nat → List (Int × Int)
  | 0 => []
  | i + 1 => if (mget (siteN G i).back (backsAt G i)).isSome then backsAt G i else mput (siteN G i).back i (backsAt G i)

theorem backs (G : Graph) (h : G.sites.length ≤ 1000000000) : FnC Try.prog 35 [graphV G] (fun r => r = .mp (intsI (backsAt G G.sites.length))) := by
  refine FnC.of (fn := Try.f35) ⟨Try.func35, by kernel_rfl, rfl⟩ Try.ntmps35 (by simp) fun w0 S0 => ?_
  refine p_seq (p_region fun hf => ?_)
  refine p_box (h := ?_)
  refine p_assign (h := ?_)
  refine p_end ?_
  refine p_seq (p_region fun hf => ?_)
  refine p_makeMap (mp := .ints []) (hm := rfl) (h := ?_)
  refine p_assign (h := ?_)
  refine p_end ?_
  refine p_seq ?_
  refine p_seq (p_region fun hf => ?_)
  (first | refine p_fieldPtr (hf := F.fld29_7) (h := ?_) | refine p_fieldRef (hf := F.fld29_7) (h := ?_) | refine p_fieldRow (hf := F.fld29_7) (h := ?_))
  (first | refine p_load (ht := F.leaf25) (h := ?_) | refine p_loadRef (ht := F.leaf25) (h := ?_))
  refine p_len (ht := Try.underlying25) (h := ?_)
  refine p_move (h := ?_)
  refine p_end ?_
  refine TrC.block ?_
  refine p_loop (fun st => ∃ i : Nat, i ≤ G.sites.length ∧ st.env 3 = .map (0 + 1 + 1) 8 ∧ st.env 10 = .sl 54 (G.sites.map siteV) ∧ st.env 11 = iV G.sites.length ∧ st.env 12 = iV i ∧ st.obj (0 + 1 + 1) 8 = .map (intsI (backsAt G i))) (fun st => G.sites.length - (st.env 12).toN) ?_ fun e ob g1 hI => ?_
  · exact ⟨0, by omega, eV_, eV_, eV_, eV_, oB_⟩
  · obtain ⟨i, hi, e3, e10, e11, e12, o8⟩ := hI
    dsimp only at e3 e10 e11 e12 o8
    have hE := (⟨e3, e10, e11, e12, o8⟩ : _ ∧ _ ∧ _ ∧ _ ∧ _)
    refine p_seq (p_region fun hf => ?_)
    refine p_num (h := ?_)
    refine p_end ?_
    refine p_seq ?_
    refine p_splitC (s := 13) (ht := fun hc13 => ?_) (hf := fun hc13 => ?_)
    · refine p_condT (h := ?_)
      have hlt : i < G.sites.length := by simpa using hc13
      refine p_skip ?_
      refine p_seq ?_
      refine TrC.block ?_
      refine p_seq (p_region fun hf => ?_)
      refine p_move (h := ?_)
      refine p_idxMap (j := i) (ht := Try.underlying25) (hi := F.ti54) (hij := rfl) (hj := hlt) (h := ?_)
      rw [siteN_eq hlt]
      (first | refine p_loadA (ht := F.agg54) (hi := F.ti54) (h := ?_) | refine p_loadRefA (ht := F.agg54) (hi := F.ti54) (h := ?_))
      refine p_alloc (hi := F.ti54) (h := ?_)
      refine p_assign (h := ?_)
      refine p_storeAll F.ti54 (h := ?_)
      refine p_end ?_
      refine p_seq (p_region fun hf => ?_)
      refine p_move (h := ?_)
      (first | refine p_fieldPtr (hf := F.fld54_3) (h := ?_) | refine p_fieldRef (hf := F.fld54_3) (h := ?_) | refine p_fieldRow (hf := F.fld54_3) (h := ?_))
      (first | refine p_load (ht := F.leaf3) (h := ?_) | refine p_loadRef (ht := F.leaf3) (h := ?_))
      refine p_lookOwn (k := .int (siteN G i).back) (ht := Try.underlying102) (hi := F.ti3) (hk := rfl) (hf := by exact Try.underlying3) (hv := look_int _ _) (h := ?_)
      refine p_move (h := ?_)
      refine p_extract (h := ?_)
      refine p_extract (h := ?_)
      refine p_assign (h := ?_)
      refine p_assign (h := ?_)
      refine p_end ?_
      refine p_seq (p_region fun hf => ?_)
      refine p_move (h := ?_)
      refine p_not (h := ?_)
      refine p_end ?_
      refine p_splitC (s := 25) (ht := fun hc25 => ?_) (hf := fun hc25 => ?_)
      · refine p_condT (h := ?_)
        refine p_region fun hf => ?_
        refine p_move (h := ?_)
        (first | refine p_fieldPtr (hf := F.fld54_3) (h := ?_) | refine p_fieldRef (hf := F.fld54_3) (h := ?_) | refine p_fieldRow (hf := F.fld54_3) (h := ?_))
        (first | refine p_load (ht := F.leaf3) (h := ?_) | refine p_loadRef (ht := F.leaf3) (h := ?_))
        refine p_move (h := ?_)
        refine p_mapPut (k := .int (siteN G i).back) (v := .int .i64 i) Try.underlying102 (hk := rfl) (hf := by exact Try.underlying3) (hvf := rfl) (h := ?_)
        refine p_end ?_
        refine p_region fun hf => ?_
        refine p_add (r := ((i + 1 : Nat) : Int)) (hr := by omega) (hb := by omega) (h := ?_)
        refine p_move (h := ?_)
        refine p_end ?_
        refine p_some ?_
        refine ⟨⟨i + 1, hlt, eV_, eV_, eV_, eV_, ?_⟩, ?_⟩
        · rw [backsAt]; rw [if_neg (by simpa using hc25), ← intsI_put]; exact oB_
        · simp (decide := true) only [upd, e12, V.toN, ↓reduceIte]; omega
      · refine p_condF (h := ?_)
        refine p_skip ?_
        refine p_region fun hf => ?_
        refine p_add (r := ((i + 1 : Nat) : Int)) (hr := by omega) (hb := by omega) (h := ?_)
        refine p_move (h := ?_)
        refine p_end ?_
        refine p_some ?_
        refine ⟨⟨i + 1, hlt, eV_, eV_, eV_, eV_, ?_⟩, ?_⟩
        · rw [backsAt]; rw [if_pos (by simpa using hc25)]; exact oB_
        · simp (decide := true) only [upd, e12, V.toN, ↓reduceIte]; omega
    · refine p_condF (h := ?_)
      have hie : i = G.sites.length := by simp at hc13; omega
      refine p_exit ?_
      refine p_seq (p_region fun hf => ?_)
      refine p_move (h := ?_)
      refine p_assign (h := ?_)
      refine p_end ?_
      refine TrC.ret ?_
      refine p_mapSl (s := 2) (h := ?_)
      refine p_ret1 (hp := by rw [hie])

end Go.Proofs.Ytfjciangbmjlmaa
