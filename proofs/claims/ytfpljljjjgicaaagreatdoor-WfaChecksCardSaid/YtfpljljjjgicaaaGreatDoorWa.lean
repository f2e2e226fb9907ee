/-
  Weights and spaces as data; functions of package slices at their types.
-/
import Derived.Test.YtfpljljjjgicaaaGreatDoorZ1
import Derived.Test.YtfpljljjjgicaaaGreatDoorF
set_option linter.unusedSimpArgs false
set_option linter.unusedVariables false
set_option maxHeartbeats 4000000
namespace Go.Proofs.YtfpljljjjgicaaaGreatDoor
open Go.RowKit
attribute [local irreducible] Wk Tr
abbrev iV (n : Int) : V := .int .i64 n
abbrev bV (x : BitVec 64) : V := .int .u64 x.toNat
structure Cel where
  (frm : BitVec 64)
  (kind k : Int)
  deriving DecidableEq
abbrev celV (c : Cel) : V := .agg [bV c.frm, iV c.kind, iV c.k]
/-- A weight, and a space. -/
inductive Wt where
  | mk (zero : Bool) (cost : Int) (gen : BitVec 64) (rows : List (BitVec 64)) (cells : List Cel) (parts : List Wt)
inductive Sp where
  | mk (tag dim : Int) (parts : List Sp)
namespace Wt
def zero : Wt → Bool | .mk a _ _ _ _ _ => a
def cost : Wt → Int | .mk _ a _ _ _ _ => a
def gen : Wt → BitVec 64 | .mk _ _ a _ _ _ => a
def rows : Wt → List (BitVec 64) | .mk _ _ _ a _ _ => a
def cells : Wt → List Cel | .mk _ _ _ _ a _ => a
def parts : Wt → List Wt | .mk _ _ _ _ _ a => a
end Wt
namespace Sp
def tag : Sp → Int | .mk a _ _ => a
def dim : Sp → Int | .mk _ a _ => a
def parts : Sp → List Sp | .mk _ _ a => a
end Sp
mutual
def wtV : Wt → V
  | .mk z c g r cs ps => .agg [.bool z, iV c, bV g, .sl 30 (r.map bV), .sl 90 (cs.map celV), .sl 37 (wtVs ps)]
def wtVs : List Wt → List V
  | [] => []
  | w :: l => wtV w :: wtVs l
end
mutual
def spV : Sp → V
  | .mk t d ps => .agg [iV t, iV d, .sl 25 (spVs ps)]
def spVs : List Sp → List V
  | [] => []
  | s :: l => spV s :: spVs l
end
theorem wtVs_eq : ∀ l : List Wt, wtVs l = l.map wtV
  | [] => rfl
  | w :: l => by rw [wtVs, wtVs_eq l]; rfl
theorem spVs_eq : ∀ l : List Sp, spVs l = l.map spV
  | [] => rfl
  | w :: l => by rw [spVs, spVs_eq l]; rfl
abbrev wtL (w : Wt) : List V := [.bool w.zero, iV w.cost, bV w.gen, .sl 30 (w.rows.map bV), .sl 90 (w.cells.map celV), .sl 37 (w.parts.map wtV)]
abbrev spL (s : Sp) : List V := [iV s.tag, iV s.dim, .sl 25 (s.parts.map spV)]
theorem wtV_eq (w : Wt) : wtV w = .agg (wtL w) := by cases w; rw [wtV, wtVs_eq]; rfl
theorem spV_eq (s : Sp) : spV s = .agg (spL s) := by cases s; rw [spV, spVs_eq]; rfl
theorem wtV_cells (w : Wt) : (wtV w).cells = wtL w := by rw [wtV_eq]; rfl
theorem spV_cells (s : Sp) : (spV s).cells = spL s := by rw [spV_eq]; rfl
def idx {α : Type} (p : α → Bool) (l : List α) : Int := if l.any p then (l.findIdx p : Nat) else -1
theorem idx_hit {α : Type} {p : α → Bool} {l : List α} {i : Nat} (hi : i < l.length) (hp : p l[i] = true) (h : ∀ j (hj : j < l.length), j < i → p l[j] = false) : idx p l = i := by
  have h1 : l.any p = true := List.any_eq_true.2 ⟨_, List.getElem_mem hi, hp⟩
  rw [idx, if_pos h1]
  congr 1
  refine (List.findIdx_eq hi).2 ⟨hp, fun j hj => h j (by omega) hj⟩
theorem idx_miss {α : Type} {p : α → Bool} {l : List α} (h : ∀ j (hj : j < l.length), p l[j] = false) : idx p l = -1 := by
  have h1 : ¬ l.any p = true := fun h1 => by
    obtain ⟨x, hx, hp⟩ := List.any_eq_true.1 h1
    obtain ⟨j, hj, rfl⟩ := List.mem_iff_getElem.1 hx
    rw [h j hj] at hp; cases hp
  rw [idx, if_neg h1]
theorem idx_nonneg {α : Type} (p : α → Bool) (l : List α) : decide (0 ≤ idx p l) = l.any p := by
  unfold idx; split <;> simp_all
theorem indexFunc_sp (p : Sp → Bool) (l : List Sp) (hl : l.length ≤ 17592186044416) (fid : FuncId) (fn : Func) (code : Code) (cap : List V) (hcap : V.outs cap = true) (hb : HasBody Tryz.prog fid fn code) (hp : ∀ x ∈ l, FnC Tryz.prog fid (spV x :: cap) (fun r => r = .bool (p x))) :
    FnC Tryz.prog 112 [.sl 25 (l.map spV), .fn fid cap] (fun r => r = iV (idx p l)) := by
  refine FnC.of (fn := Tryz.f112) ⟨Tryz.func112, by kernel_rfl, rfl⟩ Tryz.ntmps112 (by simp) fun w0 S0 => ?_
  refine p_go ?_
  refine p_loop (fun st => ∃ i : Nat, i ≤ l.length ∧ (∀ j (hj : j < l.length), j < i → p l[j] = false) ∧ st.env 0 = .sl 25 (l.map spV) ∧ st.env 1 = .fn fid cap ∧ st.env 7 = iV l.length ∧ st.env 8 = iV i) (fun st => l.length - (st.env 8).toN) ?_ fun e ob g hI => ?_
  · exact ⟨0, by omega, fun j hj h => by omega, eV_, eV_, eV_, eV_⟩
  · obtain ⟨i, hi, hn, e0, e1, e7, e8⟩ := hI
    dsimp only at e0 e1 e7 e8
    have hE := (⟨e0, e1, e7, e8⟩ : _ ∧ _ ∧ _ ∧ _)
    refine p_go ?_
    refine p_cond (ht := fun hc => ?_) (hf := fun hc => ?_)
    · have hlt : i < l.length := by simpa using hc
      have hq := hp l[i] (List.getElem_mem hlt)
      rw [spV_eq] at hq
      refine p_go fun hf => ?_
      refine p_idxMap (j := i) (ht := Tryz.underlying23) (hi := F.ti25.h) (hij := rfl) (hj := hlt) (h := ?_)
      rw [spV_cells]
      refine p_go fun hf => ?_
      refine p_call (vs := .agg (spL l[i]) :: cap) (hb := hb) (hro := by simp [V.outs, V.out, hcap]) (hf := hq) (h := ?_)
      refine p_go ?_
      refine p_cond (ht := fun hc => ?_) (hf := fun hc => ?_)
      · refine p_go ?_
        refine p_ret1 (hp := by rw [idx_hit hlt hc hn])
      · refine p_go fun hf => ?_
        refine p_add (r := ((i + 1 : Nat) : Int)) (hr := by omega) (hb := by omega) (h := ?_)
        refine p_go ?_
        refine p_some ?_
        refine ⟨⟨i + 1, hlt, fun j hj h => ?_, eV_, eV_, eV_, eV_⟩, ?_⟩
        · rcases Nat.lt_succ_iff_lt_or_eq.1 h with h | h
          · exact hn j hj h
          · subst h; exact hc
        · simp (decide := true) only [upd, e8, V.toN, ↓reduceIte]; omega
    · have hge : i = l.length := by have := hc; simp at this; omega
      refine p_go ?_
      refine p_ret1 (hp := by rw [idx_miss fun j hj => hn j hj (by omega)])
theorem containsFunc_sp (p : Sp → Bool) (l : List Sp) (hl : l.length ≤ 17592186044416) (fid : FuncId) (fn : Func) (code : Code) (cap : List V) (hcap : V.outs cap = true) (hb : HasBody Tryz.prog fid fn code) (hp : ∀ x ∈ l, FnC Tryz.prog fid (spV x :: cap) (fun r => r = .bool (p x))) :
    FnC Tryz.prog 88 [.sl 25 (l.map spV), .fn fid cap] (fun r => r = .bool (l.any p)) := by
  refine FnC.of (fn := Tryz.f88) ⟨Tryz.func88, by kernel_rfl, rfl⟩ Tryz.ntmps88 (by simp) fun w0 S0 => ?_
  refine p_go fun hf => ?_
  refine p_call (vs := [.sl 25 (l.map spV), .fn fid cap]) (hx := rfl) (hb := ⟨Tryz.func112, by kernel_rfl, rfl⟩) (hro := by simp [V.outs, V.out, hcap]) (hf := indexFunc_sp p l hl fid fn code cap hcap hb hp) (h := ?_)
  refine p_go ?_
  refine p_ret1 (hp := by rw [idx_nonneg])
theorem indexFunc_wt (p : Wt → Bool) (l : List Wt) (hl : l.length ≤ 17592186044416) (fid : FuncId) (fn : Func) (code : Code) (cap : List V) (hcap : V.outs cap = true) (hb : HasBody Tryz.prog fid fn code) (hp : ∀ x ∈ l, FnC Tryz.prog fid (wtV x :: cap) (fun r => r = .bool (p x))) :
    FnC Tryz.prog 149 [.sl 37 (l.map wtV), .fn fid cap] (fun r => r = iV (idx p l)) := by
  refine FnC.of (fn := Tryz.f149) ⟨Tryz.func149, by kernel_rfl, rfl⟩ Tryz.ntmps149 (by simp) fun w0 S0 => ?_
  refine p_go ?_
  refine p_loop (fun st => ∃ i : Nat, i ≤ l.length ∧ (∀ j (hj : j < l.length), j < i → p l[j] = false) ∧ st.env 0 = .sl 37 (l.map wtV) ∧ st.env 1 = .fn fid cap ∧ st.env 7 = iV l.length ∧ st.env 8 = iV i) (fun st => l.length - (st.env 8).toN) ?_ fun e ob g hI => ?_
  · exact ⟨0, by omega, fun j hj h => by omega, eV_, eV_, eV_, eV_⟩
  · obtain ⟨i, hi, hn, e0, e1, e7, e8⟩ := hI
    dsimp only at e0 e1 e7 e8
    have hE := (⟨e0, e1, e7, e8⟩ : _ ∧ _ ∧ _ ∧ _)
    refine p_go ?_
    refine p_cond (ht := fun hc => ?_) (hf := fun hc => ?_)
    · have hlt : i < l.length := by simpa using hc
      have hq := hp l[i] (List.getElem_mem hlt)
      rw [wtV_eq] at hq
      refine p_go fun hf => ?_
      refine p_idxMap (j := i) (ht := Tryz.underlying35) (hi := F.ti37.h) (hij := rfl) (hj := hlt) (h := ?_)
      rw [wtV_cells]
      refine p_go fun hf => ?_
      refine p_call (vs := .agg (wtL l[i]) :: cap) (hb := hb) (hro := by simp [V.outs, V.out, hcap]) (hf := hq) (h := ?_)
      refine p_go ?_
      refine p_cond (ht := fun hc => ?_) (hf := fun hc => ?_)
      · refine p_go ?_
        refine p_ret1 (hp := by rw [idx_hit hlt hc hn])
      · refine p_go fun hf => ?_
        refine p_add (r := ((i + 1 : Nat) : Int)) (hr := by omega) (hb := by omega) (h := ?_)
        refine p_go ?_
        refine p_some ?_
        refine ⟨⟨i + 1, hlt, fun j hj h => ?_, eV_, eV_, eV_, eV_⟩, ?_⟩
        · rcases Nat.lt_succ_iff_lt_or_eq.1 h with h | h
          · exact hn j hj h
          · subst h; exact hc
        · simp (decide := true) only [upd, e8, V.toN, ↓reduceIte]; omega
    · have hge : i = l.length := by have := hc; simp at this; omega
      refine p_go ?_
      refine p_ret1 (hp := by rw [idx_miss fun j hj => hn j hj (by omega)])
theorem containsFunc_wt (p : Wt → Bool) (l : List Wt) (hl : l.length ≤ 17592186044416) (fid : FuncId) (fn : Func) (code : Code) (cap : List V) (hcap : V.outs cap = true) (hb : HasBody Tryz.prog fid fn code) (hp : ∀ x ∈ l, FnC Tryz.prog fid (wtV x :: cap) (fun r => r = .bool (p x))) :
    FnC Tryz.prog 113 [.sl 37 (l.map wtV), .fn fid cap] (fun r => r = .bool (l.any p)) := by
  refine FnC.of (fn := Tryz.f113) ⟨Tryz.func113, by kernel_rfl, rfl⟩ Tryz.ntmps113 (by simp) fun w0 S0 => ?_
  refine p_go fun hf => ?_
  refine p_call (vs := [.sl 37 (l.map wtV), .fn fid cap]) (hx := rfl) (hb := ⟨Tryz.func149, by kernel_rfl, rfl⟩) (hro := by simp [V.outs, V.out, hcap]) (hf := indexFunc_wt p l hl fid fn code cap hcap hb hp) (h := ?_)
  refine p_go ?_
  refine p_ret1 (hp := by rw [idx_nonneg])
theorem indexFunc_u64 (p : (BitVec 64) → Bool) (l : List (BitVec 64)) (hl : l.length ≤ 17592186044416) (fid : FuncId) (fn : Func) (code : Code) (cap : List V) (hcap : V.outs cap = true) (hb : HasBody Tryz.prog fid fn code) (hp : ∀ x ∈ l, FnC Tryz.prog fid (bV x :: cap) (fun r => r = .bool (p x))) :
    FnC Tryz.prog 178 [.sl 30 (l.map bV), .fn fid cap] (fun r => r = iV (idx p l)) := by
  refine FnC.of (fn := Tryz.f178) ⟨Tryz.func178, by kernel_rfl, rfl⟩ Tryz.ntmps178 (by simp) fun w0 S0 => ?_
  refine p_go ?_
  refine p_loop (fun st => ∃ i : Nat, i ≤ l.length ∧ (∀ j (hj : j < l.length), j < i → p l[j] = false) ∧ st.env 0 = .sl 30 (l.map bV) ∧ st.env 1 = .fn fid cap ∧ st.env 7 = iV l.length ∧ st.env 8 = iV i) (fun st => l.length - (st.env 8).toN) ?_ fun e ob g hI => ?_
  · exact ⟨0, by omega, fun j hj h => by omega, eV_, eV_, eV_, eV_⟩
  · obtain ⟨i, hi, hn, e0, e1, e7, e8⟩ := hI
    dsimp only at e0 e1 e7 e8
    have hE := (⟨e0, e1, e7, e8⟩ : _ ∧ _ ∧ _ ∧ _)
    refine p_go ?_
    refine p_cond (ht := fun hc => ?_) (hf := fun hc => ?_)
    · have hlt : i < l.length := by simpa using hc
      have hq := hp l[i] (List.getElem_mem hlt)
      refine p_go fun hf => ?_
      refine p_idxMap (j := i) (ht := Tryz.underlying31) (hi := F.ti30.h) (hij := rfl) (hj := hlt) (h := ?_)
      refine p_go fun hf => ?_
      refine p_call (vs := bV l[i] :: cap) (hb := hb) (hro := by simp [V.outs, V.out, hcap]) (hf := hq) (h := ?_)
      refine p_go ?_
      refine p_cond (ht := fun hc => ?_) (hf := fun hc => ?_)
      · refine p_go ?_
        refine p_ret1 (hp := by rw [idx_hit hlt hc hn])
      · refine p_go fun hf => ?_
        refine p_add (r := ((i + 1 : Nat) : Int)) (hr := by omega) (hb := by omega) (h := ?_)
        refine p_go ?_
        refine p_some ?_
        refine ⟨⟨i + 1, hlt, fun j hj h => ?_, eV_, eV_, eV_, eV_⟩, ?_⟩
        · rcases Nat.lt_succ_iff_lt_or_eq.1 h with h | h
          · exact hn j hj h
          · subst h; exact hc
        · simp (decide := true) only [upd, e8, V.toN, ↓reduceIte]; omega
    · have hge : i = l.length := by have := hc; simp at this; omega
      refine p_go ?_
      refine p_ret1 (hp := by rw [idx_miss fun j hj => hn j hj (by omega)])
theorem containsFunc_u64 (p : (BitVec 64) → Bool) (l : List (BitVec 64)) (hl : l.length ≤ 17592186044416) (fid : FuncId) (fn : Func) (code : Code) (cap : List V) (hcap : V.outs cap = true) (hb : HasBody Tryz.prog fid fn code) (hp : ∀ x ∈ l, FnC Tryz.prog fid (bV x :: cap) (fun r => r = .bool (p x))) :
    FnC Tryz.prog 173 [.sl 30 (l.map bV), .fn fid cap] (fun r => r = .bool (l.any p)) := by
  refine FnC.of (fn := Tryz.f173) ⟨Tryz.func173, by kernel_rfl, rfl⟩ Tryz.ntmps173 (by simp) fun w0 S0 => ?_
  refine p_go fun hf => ?_
  refine p_call (vs := [.sl 30 (l.map bV), .fn fid cap]) (hx := rfl) (hb := ⟨Tryz.func178, by kernel_rfl, rfl⟩) (hro := by simp [V.outs, V.out, hcap]) (hf := indexFunc_u64 p l hl fid fn code cap hcap hb hp) (h := ?_)
  refine p_go ?_
  refine p_ret1 (hp := by rw [idx_nonneg])
theorem clone_u64 (l : List (BitVec 64)) (hl : l.length ≤ 1000000) : FnC Tryz.prog 134 [.sl 30 (l.map bV)] (fun r => r = .sl 30 (l.map bV)) := by
  refine FnC.of (fn := Tryz.f134) ⟨Tryz.func134, by kernel_rfl, rfl⟩ Tryz.ntmps134 (by simp) fun w0 S0 => ?_
  refine p_go fun hf => ?_
  refine p_eqNil (h := fun b hb => ?_)
  refine p_go ?_
  refine p_cond (ht := fun hc => ?_) (hf := fun hc => ?_)
  · have hnil := hb hc
    refine p_go ?_
    refine p_nilSl (s := 2) (t := 30) (h := ?_)
    refine p_ret1 (hp := by rw [hnil])
  · refine p_go fun hf => ?_
    refine p_buildSlice (ht := Tryz.underlying31) (hi := F.ti30.h) (hvs := rfl) (hl := by intro v hv; cases hv) (h := ?_)
    refine p_go fun hf => ?_
    refine p_append (k := l.length) (xs := []) (ht := Tryz.underlying31) (hi := F.ti30.h) (hnl := rfl) (hy := by exact .inl ⟨rfl, rfl⟩) (hm := by simp) (hlim := by omega) (h := ?_)
    refine p_go ?_
    refine p_freeze (g1 := 0 + 1 + 1 + 1) (d1 := 7) (h := ?_)
    refine p_toSl (s := 2) (hn := by simp) (h := ?_)
    refine p_ret1 (hp := by simp)
theorem clone_cel (l : List Cel) (hl : l.length ≤ 1000000) : FnC Tryz.prog 135 [.sl 90 (l.map celV)] (fun r => r = .sl 90 (l.map celV)) := by
  refine FnC.of (fn := Tryz.f135) ⟨Tryz.func135, by kernel_rfl, rfl⟩ Tryz.ntmps135 (by simp) fun w0 S0 => ?_
  refine p_go fun hf => ?_
  refine p_eqNil (h := fun b hb => ?_)
  refine p_go ?_
  refine p_cond (ht := fun hc => ?_) (hf := fun hc => ?_)
  · have hnil := hb hc
    refine p_go ?_
    refine p_nilSl (s := 2) (t := 90) (h := ?_)
    refine p_ret1 (hp := by rw [hnil])
  · refine p_go fun hf => ?_
    refine p_buildSlice (ht := Tryz.underlying34) (hi := F.ti90.h) (hvs := rfl) (hl := by intro v hv; cases hv) (h := ?_)
    refine p_go fun hf => ?_
    refine p_append (k := l.length) (xs := []) (ht := Tryz.underlying34) (hi := F.ti90.h) (hnl := rfl) (hy := by exact .inl ⟨rfl, rfl⟩) (hm := by simp) (hlim := by omega) (h := ?_)
    refine p_go ?_
    refine p_freeze (g1 := 0 + 1 + 1 + 1) (d1 := 7) (h := ?_)
    refine p_toSl (s := 2) (hn := by simp) (h := ?_)
    refine p_ret1 (hp := by simp)
end Go.Proofs.YtfpljljjjgicaaaGreatDoor
