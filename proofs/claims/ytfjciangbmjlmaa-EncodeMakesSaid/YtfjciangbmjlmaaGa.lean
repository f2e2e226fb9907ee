/-
  Graphs as data; slices.IndexFunc, slices.ContainsFunc at the four types of the program.
-/
import Derived.Test.YtfjciangbmjlmaaF
set_option linter.unusedSimpArgs false
set_option linter.unusedVariables false
namespace Go.Proofs.Ytfjciangbmjlmaa
open Go.RowKit
structure Step where
  (frm to kind x y k site : Int)
  deriving DecidableEq
structure Site where
  (name : ByteArray)
  (proc frm back : Int)
structure Point where
  (name : ByteArray)
  (node : Int)
structure Sink where
  (x node : Int)
structure Graph where
  (vars procs : List ByteArray)
  (entry exit : List Int)
  (main : Int)
  (of : List Int)
  (steps : List Step)
  (sites : List Site)
  (points : List Point)
  (sinks : List Sink)
abbrev iV (n : Int) : V := .int .i64 n
abbrev stepV (s : Step) : V := .agg [iV s.frm, iV s.to, iV s.kind, iV s.x, iV s.y, iV s.k, iV s.site]
abbrev siteV (s : Site) : V := .agg [.str s.name, iV s.proc, iV s.frm, iV s.back]
abbrev pointV (s : Point) : V := .agg [.str s.name, iV s.node]
abbrev sinkV (s : Sink) : V := .agg [iV s.x, iV s.node]
abbrev graphL (g : Graph) : List V := [.sl 9 (g.vars.map .str), .sl 9 (g.procs.map .str), .sl 3 (g.entry.map iV), .sl 3 (g.exit.map iV), iV g.main, .sl 3 (g.of.map iV), .sl 50 (g.steps.map stepV), .sl 54 (g.sites.map siteV), .sl 121 (g.points.map pointV), .sl 126 (g.sinks.map sinkV)]
abbrev graphV (g : Graph) : V := .agg (graphL g)
def idx {α : Type} (p : α → Bool) (l : List α) : Int := if l.any p then (l.findIdx p : Nat) else -1
theorem idx_hit {α : Type} {p : α → Bool} {l : List α} {i : Nat} (hi : i < l.length) (hp : p l[i] = true) (h : ∀ j (hj : j < l.length), j < i → p l[j] = false) : idx p l = i := by
  have h1 : l.any p = true := List.any_eq_true.2 ⟨_, List.getElem_mem hi, hp⟩
  rw [idx, if_pos h1]
  congr 1
  refine (List.findIdx_eq hi).2 ⟨hp, fun j hj => h j (by omega) hj⟩
theorem idx_miss {α : Type} {p : α → Bool} {l : List α} (h : ∀ j (hj : j < l.length), p l[j] = false) : idx p l = -1 := by
  have h1 : ¬ l.any p = true := fun h1 => by
    obtain ⟨x, hx, hp⟩ := List.any_eq_true.1 h1
    obtain ⟨j, hj, rfl⟩ := List.mem_iff_getElem.1 hx
    rw [h j hj] at hp; cases hp
  rw [idx, if_neg h1]
theorem idx_nonneg {α : Type} (p : α → Bool) (l : List α) : decide (0 ≤ idx p l) = l.any p := by
  unfold idx; split <;> simp_all

theorem indexFunc_int (p : Int → Bool) (l : List Int) (hl : l.length ≤ 1000000000) (fid : FuncId) (fn : Func) (code : Code) (cap : List V) (hcap : V.outs cap = true) (hb : HasBody Try.prog fid fn code) (hp : ∀ x ∈ l, FnC Try.prog fid (iV x :: cap) (fun r => r = .bool (p x))) :
    FnC Try.prog 91 [.sl 3 (l.map iV), .fn fid cap] (fun r => r = iV (idx p l)) := by
  refine FnC.of (fn := Try.f91) ⟨Try.func91, by kernel_rfl, rfl⟩ Try.ntmps91 (by simp) fun w0 S0 => ?_
  refine p_seq (p_region fun hf => ?_)
  refine p_assign (h := ?_)
  refine p_end ?_
  refine p_seq ?_
  refine p_seq (p_region fun hf => ?_)
  refine p_move (h := ?_)
  refine p_len (ht := Try.underlying23) (h := ?_)
  refine p_move (h := ?_)
  refine p_end ?_
  refine TrC.block ?_
  refine p_loop (fun st => ∃ i : Nat, i ≤ l.length ∧ (∀ j (hj : j < l.length), j < i → p l[j] = false) ∧ st.env 0 = .sl 3 (l.map iV) ∧ st.env 1 = .fn fid cap ∧ st.env 7 = iV l.length ∧ st.env 8 = iV i) (fun st => l.length - (st.env 8).toN) ?_ fun e ob g hI => ?_
  · exact ⟨0, by omega, fun j hj h => by omega, eV_, eV_, eV_, eV_⟩
  · obtain ⟨i, hi, hn, e0, e1, e7, e8⟩ := hI
    dsimp only at e0 e1 e7 e8
    have hE := (⟨e0, e1, e7, e8⟩ : _ ∧ _ ∧ _ ∧ _)
    refine p_seq (p_region fun hf => ?_)
    refine p_num (h := ?_)
    refine p_end ?_
    refine p_seq ?_
    refine p_cond (ht := fun hc => ?_) (hf := fun hc => ?_)
    · have hlt : i < l.length := by simpa using hc
      refine p_skip ?_
      refine p_seq ?_
      refine TrC.block ?_
      refine p_seq (p_region fun hf => ?_)
      refine p_move (h := ?_)
      refine p_assign (h := ?_)
      refine p_end ?_
      refine p_seq (p_region fun hf => ?_)
      refine p_move (h := ?_)
      refine p_move (h := ?_)
      refine p_move (h := ?_)
      refine p_idxMap (j := i) (ht := Try.underlying23) (hi := F.ti3) (hij := rfl) (hj := hlt) (h := ?_)
      (first | refine p_load (ht := F.leaf3) (h := ?_) | refine p_loadRef (ht := F.leaf3) (h := ?_))
      refine p_call (vs := iV l[i] :: cap) (hb := hb) (hro := by simp [V.outs, V.out, hcap]) (hf := hp l[i] (List.getElem_mem hlt)) (h := ?_)
      refine p_end ?_
      refine p_cond (ht := fun hc => ?_) (hf := fun hc => ?_)
      · refine p_seq (p_region fun hf => ?_)
        refine p_move (h := ?_)
        refine p_assign (h := ?_)
        refine p_end ?_
        refine TrC.ret ?_
        refine p_ret1 (hp := by rw [idx_hit hlt hc hn])
      · refine p_skip ?_
        refine p_region fun hf => ?_
        refine p_add (r := ((i + 1 : Nat) : Int)) (hr := by omega) (hb := by omega) (h := ?_)
        refine p_move (h := ?_)
        refine p_end ?_
        refine p_some ?_
        refine ⟨⟨i + 1, hlt, fun j hj h => ?_, eV_, eV_, eV_, eV_⟩, ?_⟩
        · rcases Nat.lt_succ_iff_lt_or_eq.1 h with h | h
          · exact hn j hj h
          · subst h; exact hc
        · simp (decide := true) only [upd, e8, V.toN, ↓reduceIte]; omega
    · have hge : i = l.length := by have := hc; simp at this; omega
      refine p_exit ?_
      refine p_seq (p_region fun hf => ?_)
      refine p_assign (h := ?_)
      refine p_end ?_
      refine TrC.ret ?_
      refine p_ret1 (hp := by rw [idx_miss fun j hj => hn j hj (by omega)])
theorem containsFunc_int (p : Int → Bool) (l : List Int) (hl : l.length ≤ 1000000000) (fid : FuncId) (fn : Func) (code : Code) (cap : List V) (hcap : V.outs cap = true) (hb : HasBody Try.prog fid fn code) (hp : ∀ x ∈ l, FnC Try.prog fid (iV x :: cap) (fun r => r = .bool (p x))) :
    FnC Try.prog 71 [.sl 3 (l.map iV), .fn fid cap] (fun r => r = .bool (l.any p)) := by
  refine FnC.of (fn := Try.f71) ⟨Try.func71, by kernel_rfl, rfl⟩ Try.ntmps71 (by simp) fun w0 S0 => ?_
  refine p_seq (p_region fun hf => ?_)
  refine p_assign (h := ?_)
  refine p_end ?_
  refine p_seq (p_region fun hf => ?_)
  refine p_move (h := ?_)
  refine p_move (h := ?_)
  refine p_call (vs := [.sl 3 (l.map iV), .fn fid cap]) (hx := rfl) (hb := ⟨Try.func91, by kernel_rfl, rfl⟩) (hro := by simp [V.outs, V.out, hcap]) (hf := indexFunc_int p l hl fid fn code cap hcap hb hp) (h := ?_)
  refine p_num (h := ?_)
  refine p_assign (h := ?_)
  refine p_end ?_
  refine TrC.ret ?_
  refine p_ret1 (hp := by rw [idx_nonneg])

theorem indexFunc_site (p : Site → Bool) (l : List Site) (hl : l.length ≤ 1000000000) (fid : FuncId) (fn : Func) (code : Code) (cap : List V) (hcap : V.outs cap = true) (hb : HasBody Try.prog fid fn code) (hp : ∀ x ∈ l, FnC Try.prog fid (siteV x :: cap) (fun r => r = .bool (p x))) :
    FnC Try.prog 92 [.sl 54 (l.map siteV), .fn fid cap] (fun r => r = iV (idx p l)) := by
  refine FnC.of (fn := Try.f92) ⟨Try.func92, by kernel_rfl, rfl⟩ Try.ntmps92 (by simp) fun w0 S0 => ?_
  refine p_seq (p_region fun hf => ?_)
  refine p_assign (h := ?_)
  refine p_end ?_
  refine p_seq ?_
  refine p_seq (p_region fun hf => ?_)
  refine p_move (h := ?_)
  refine p_len (ht := Try.underlying25) (h := ?_)
  refine p_move (h := ?_)
  refine p_end ?_
  refine TrC.block ?_
  refine p_loop (fun st => ∃ i : Nat, i ≤ l.length ∧ (∀ j (hj : j < l.length), j < i → p l[j] = false) ∧ st.env 0 = .sl 54 (l.map siteV) ∧ st.env 1 = .fn fid cap ∧ st.env 7 = iV l.length ∧ st.env 8 = iV i) (fun st => l.length - (st.env 8).toN) ?_ fun e ob g hI => ?_
  · exact ⟨0, by omega, fun j hj h => by omega, eV_, eV_, eV_, eV_⟩
  · obtain ⟨i, hi, hn, e0, e1, e7, e8⟩ := hI
    dsimp only at e0 e1 e7 e8
    have hE := (⟨e0, e1, e7, e8⟩ : _ ∧ _ ∧ _ ∧ _)
    refine p_seq (p_region fun hf => ?_)
    refine p_num (h := ?_)
    refine p_end ?_
    refine p_seq ?_
    refine p_cond (ht := fun hc => ?_) (hf := fun hc => ?_)
    · have hlt : i < l.length := by simpa using hc
      refine p_skip ?_
      refine p_seq ?_
      refine TrC.block ?_
      refine p_seq (p_region fun hf => ?_)
      refine p_move (h := ?_)
      refine p_assign (h := ?_)
      refine p_end ?_
      refine p_seq (p_region fun hf => ?_)
      refine p_move (h := ?_)
      refine p_move (h := ?_)
      refine p_move (h := ?_)
      refine p_idxMap (j := i) (ht := Try.underlying25) (hi := F.ti54) (hij := rfl) (hj := hlt) (h := ?_)
      (first | refine p_loadA (ht := F.agg54) (hi := F.ti54) (h := ?_) | refine p_loadRefA (ht := F.agg54) (hi := F.ti54) (h := ?_))
      refine p_call (vs := siteV l[i] :: cap) (hb := hb) (hro := by simp [V.outs, V.out, hcap]) (hf := hp l[i] (List.getElem_mem hlt)) (h := ?_)
      refine p_end ?_
      refine p_cond (ht := fun hc => ?_) (hf := fun hc => ?_)
      · refine p_seq (p_region fun hf => ?_)
        refine p_move (h := ?_)
        refine p_assign (h := ?_)
        refine p_end ?_
        refine TrC.ret ?_
        refine p_ret1 (hp := by rw [idx_hit hlt hc hn])
      · refine p_skip ?_
        refine p_region fun hf => ?_
        refine p_add (r := ((i + 1 : Nat) : Int)) (hr := by omega) (hb := by omega) (h := ?_)
        refine p_move (h := ?_)
        refine p_end ?_
        refine p_some ?_
        refine ⟨⟨i + 1, hlt, fun j hj h => ?_, eV_, eV_, eV_, eV_⟩, ?_⟩
        · rcases Nat.lt_succ_iff_lt_or_eq.1 h with h | h
          · exact hn j hj h
          · subst h; exact hc
        · simp (decide := true) only [upd, e8, V.toN, ↓reduceIte]; omega
    · have hge : i = l.length := by have := hc; simp at this; omega
      refine p_exit ?_
      refine p_seq (p_region fun hf => ?_)
      refine p_assign (h := ?_)
      refine p_end ?_
      refine TrC.ret ?_
      refine p_ret1 (hp := by rw [idx_miss fun j hj => hn j hj (by omega)])
theorem containsFunc_site (p : Site → Bool) (l : List Site) (hl : l.length ≤ 1000000000) (fid : FuncId) (fn : Func) (code : Code) (cap : List V) (hcap : V.outs cap = true) (hb : HasBody Try.prog fid fn code) (hp : ∀ x ∈ l, FnC Try.prog fid (siteV x :: cap) (fun r => r = .bool (p x))) :
    FnC Try.prog 73 [.sl 54 (l.map siteV), .fn fid cap] (fun r => r = .bool (l.any p)) := by
  refine FnC.of (fn := Try.f73) ⟨Try.func73, by kernel_rfl, rfl⟩ Try.ntmps73 (by simp) fun w0 S0 => ?_
  refine p_seq (p_region fun hf => ?_)
  refine p_assign (h := ?_)
  refine p_end ?_
  refine p_seq (p_region fun hf => ?_)
  refine p_move (h := ?_)
  refine p_move (h := ?_)
  refine p_call (vs := [.sl 54 (l.map siteV), .fn fid cap]) (hx := rfl) (hb := ⟨Try.func92, by kernel_rfl, rfl⟩) (hro := by simp [V.outs, V.out, hcap]) (hf := indexFunc_site p l hl fid fn code cap hcap hb hp) (h := ?_)
  refine p_num (h := ?_)
  refine p_assign (h := ?_)
  refine p_end ?_
  refine TrC.ret ?_
  refine p_ret1 (hp := by rw [idx_nonneg])

theorem indexFunc_point (p : Point → Bool) (l : List Point) (hl : l.length ≤ 1000000000) (fid : FuncId) (fn : Func) (code : Code) (cap : List V) (hcap : V.outs cap = true) (hb : HasBody Try.prog fid fn code) (hp : ∀ x ∈ l, FnC Try.prog fid (pointV x :: cap) (fun r => r = .bool (p x))) :
    FnC Try.prog 75 [.sl 121 (l.map pointV), .fn fid cap] (fun r => r = iV (idx p l)) := by
  refine FnC.of (fn := Try.f75) ⟨Try.func75, by kernel_rfl, rfl⟩ Try.ntmps75 (by simp) fun w0 S0 => ?_
  refine p_seq (p_region fun hf => ?_)
  refine p_assign (h := ?_)
  refine p_end ?_
  refine p_seq ?_
  refine p_seq (p_region fun hf => ?_)
  refine p_move (h := ?_)
  refine p_len (ht := Try.underlying26) (h := ?_)
  refine p_move (h := ?_)
  refine p_end ?_
  refine TrC.block ?_
  refine p_loop (fun st => ∃ i : Nat, i ≤ l.length ∧ (∀ j (hj : j < l.length), j < i → p l[j] = false) ∧ st.env 0 = .sl 121 (l.map pointV) ∧ st.env 1 = .fn fid cap ∧ st.env 7 = iV l.length ∧ st.env 8 = iV i) (fun st => l.length - (st.env 8).toN) ?_ fun e ob g hI => ?_
  · exact ⟨0, by omega, fun j hj h => by omega, eV_, eV_, eV_, eV_⟩
  · obtain ⟨i, hi, hn, e0, e1, e7, e8⟩ := hI
    dsimp only at e0 e1 e7 e8
    have hE := (⟨e0, e1, e7, e8⟩ : _ ∧ _ ∧ _ ∧ _)
    refine p_seq (p_region fun hf => ?_)
    refine p_num (h := ?_)
    refine p_end ?_
    refine p_seq ?_
    refine p_cond (ht := fun hc => ?_) (hf := fun hc => ?_)
    · have hlt : i < l.length := by simpa using hc
      refine p_skip ?_
      refine p_seq ?_
      refine TrC.block ?_
      refine p_seq (p_region fun hf => ?_)
      refine p_move (h := ?_)
      refine p_assign (h := ?_)
      refine p_end ?_
      refine p_seq (p_region fun hf => ?_)
      refine p_move (h := ?_)
      refine p_move (h := ?_)
      refine p_move (h := ?_)
      refine p_idxMap (j := i) (ht := Try.underlying26) (hi := F.ti121) (hij := rfl) (hj := hlt) (h := ?_)
      (first | refine p_loadA (ht := F.agg121) (hi := F.ti121) (h := ?_) | refine p_loadRefA (ht := F.agg121) (hi := F.ti121) (h := ?_))
      refine p_call (vs := pointV l[i] :: cap) (hb := hb) (hro := by simp [V.outs, V.out, hcap]) (hf := hp l[i] (List.getElem_mem hlt)) (h := ?_)
      refine p_end ?_
      refine p_cond (ht := fun hc => ?_) (hf := fun hc => ?_)
      · refine p_seq (p_region fun hf => ?_)
        refine p_move (h := ?_)
        refine p_assign (h := ?_)
        refine p_end ?_
        refine TrC.ret ?_
        refine p_ret1 (hp := by rw [idx_hit hlt hc hn])
      · refine p_skip ?_
        refine p_region fun hf => ?_
        refine p_add (r := ((i + 1 : Nat) : Int)) (hr := by omega) (hb := by omega) (h := ?_)
        refine p_move (h := ?_)
        refine p_end ?_
        refine p_some ?_
        refine ⟨⟨i + 1, hlt, fun j hj h => ?_, eV_, eV_, eV_, eV_⟩, ?_⟩
        · rcases Nat.lt_succ_iff_lt_or_eq.1 h with h | h
          · exact hn j hj h
          · subst h; exact hc
        · simp (decide := true) only [upd, e8, V.toN, ↓reduceIte]; omega
    · have hge : i = l.length := by have := hc; simp at this; omega
      refine p_exit ?_
      refine p_seq (p_region fun hf => ?_)
      refine p_assign (h := ?_)
      refine p_end ?_
      refine TrC.ret ?_
      refine p_ret1 (hp := by rw [idx_miss fun j hj => hn j hj (by omega)])
theorem containsFunc_point (p : Point → Bool) (l : List Point) (hl : l.length ≤ 1000000000) (fid : FuncId) (fn : Func) (code : Code) (cap : List V) (hcap : V.outs cap = true) (hb : HasBody Try.prog fid fn code) (hp : ∀ x ∈ l, FnC Try.prog fid (pointV x :: cap) (fun r => r = .bool (p x))) :
    FnC Try.prog 49 [.sl 121 (l.map pointV), .fn fid cap] (fun r => r = .bool (l.any p)) := by
  refine FnC.of (fn := Try.f49) ⟨Try.func49, by kernel_rfl, rfl⟩ Try.ntmps49 (by simp) fun w0 S0 => ?_
  refine p_seq (p_region fun hf => ?_)
  refine p_assign (h := ?_)
  refine p_end ?_
  refine p_seq (p_region fun hf => ?_)
  refine p_move (h := ?_)
  refine p_move (h := ?_)
  refine p_call (vs := [.sl 121 (l.map pointV), .fn fid cap]) (hx := rfl) (hb := ⟨Try.func75, by kernel_rfl, rfl⟩) (hro := by simp [V.outs, V.out, hcap]) (hf := indexFunc_point p l hl fid fn code cap hcap hb hp) (h := ?_)
  refine p_num (h := ?_)
  refine p_assign (h := ?_)
  refine p_end ?_
  refine TrC.ret ?_
  refine p_ret1 (hp := by rw [idx_nonneg])

theorem indexFunc_sink (p : Sink → Bool) (l : List Sink) (hl : l.length ≤ 1000000000) (fid : FuncId) (fn : Func) (code : Code) (cap : List V) (hcap : V.outs cap = true) (hb : HasBody Try.prog fid fn code) (hp : ∀ x ∈ l, FnC Try.prog fid (sinkV x :: cap) (fun r => r = .bool (p x))) :
    FnC Try.prog 76 [.sl 126 (l.map sinkV), .fn fid cap] (fun r => r = iV (idx p l)) := by
  refine FnC.of (fn := Try.f76) ⟨Try.func76, by kernel_rfl, rfl⟩ Try.ntmps76 (by simp) fun w0 S0 => ?_
  refine p_seq (p_region fun hf => ?_)
  refine p_assign (h := ?_)
  refine p_end ?_
  refine p_seq ?_
  refine p_seq (p_region fun hf => ?_)
  refine p_move (h := ?_)
  refine p_len (ht := Try.underlying27) (h := ?_)
  refine p_move (h := ?_)
  refine p_end ?_
  refine TrC.block ?_
  refine p_loop (fun st => ∃ i : Nat, i ≤ l.length ∧ (∀ j (hj : j < l.length), j < i → p l[j] = false) ∧ st.env 0 = .sl 126 (l.map sinkV) ∧ st.env 1 = .fn fid cap ∧ st.env 7 = iV l.length ∧ st.env 8 = iV i) (fun st => l.length - (st.env 8).toN) ?_ fun e ob g hI => ?_
  · exact ⟨0, by omega, fun j hj h => by omega, eV_, eV_, eV_, eV_⟩
  · obtain ⟨i, hi, hn, e0, e1, e7, e8⟩ := hI
    dsimp only at e0 e1 e7 e8
    have hE := (⟨e0, e1, e7, e8⟩ : _ ∧ _ ∧ _ ∧ _)
    refine p_seq (p_region fun hf => ?_)
    refine p_num (h := ?_)
    refine p_end ?_
    refine p_seq ?_
    refine p_cond (ht := fun hc => ?_) (hf := fun hc => ?_)
    · have hlt : i < l.length := by simpa using hc
      refine p_skip ?_
      refine p_seq ?_
      refine TrC.block ?_
      refine p_seq (p_region fun hf => ?_)
      refine p_move (h := ?_)
      refine p_assign (h := ?_)
      refine p_end ?_
      refine p_seq (p_region fun hf => ?_)
      refine p_move (h := ?_)
      refine p_move (h := ?_)
      refine p_move (h := ?_)
      refine p_idxMap (j := i) (ht := Try.underlying27) (hi := F.ti126) (hij := rfl) (hj := hlt) (h := ?_)
      (first | refine p_loadA (ht := F.agg126) (hi := F.ti126) (h := ?_) | refine p_loadRefA (ht := F.agg126) (hi := F.ti126) (h := ?_))
      refine p_call (vs := sinkV l[i] :: cap) (hb := hb) (hro := by simp [V.outs, V.out, hcap]) (hf := hp l[i] (List.getElem_mem hlt)) (h := ?_)
      refine p_end ?_
      refine p_cond (ht := fun hc => ?_) (hf := fun hc => ?_)
      · refine p_seq (p_region fun hf => ?_)
        refine p_move (h := ?_)
        refine p_assign (h := ?_)
        refine p_end ?_
        refine TrC.ret ?_
        refine p_ret1 (hp := by rw [idx_hit hlt hc hn])
      · refine p_skip ?_
        refine p_region fun hf => ?_
        refine p_add (r := ((i + 1 : Nat) : Int)) (hr := by omega) (hb := by omega) (h := ?_)
        refine p_move (h := ?_)
        refine p_end ?_
        refine p_some ?_
        refine ⟨⟨i + 1, hlt, fun j hj h => ?_, eV_, eV_, eV_, eV_⟩, ?_⟩
        · rcases Nat.lt_succ_iff_lt_or_eq.1 h with h | h
          · exact hn j hj h
          · subst h; exact hc
        · simp (decide := true) only [upd, e8, V.toN, ↓reduceIte]; omega
    · have hge : i = l.length := by have := hc; simp at this; omega
      refine p_exit ?_
      refine p_seq (p_region fun hf => ?_)
      refine p_assign (h := ?_)
      refine p_end ?_
      refine TrC.ret ?_
      refine p_ret1 (hp := by rw [idx_miss fun j hj => hn j hj (by omega)])
theorem containsFunc_sink (p : Sink → Bool) (l : List Sink) (hl : l.length ≤ 1000000000) (fid : FuncId) (fn : Func) (code : Code) (cap : List V) (hcap : V.outs cap = true) (hb : HasBody Try.prog fid fn code) (hp : ∀ x ∈ l, FnC Try.prog fid (sinkV x :: cap) (fun r => r = .bool (p x))) :
    FnC Try.prog 52 [.sl 126 (l.map sinkV), .fn fid cap] (fun r => r = .bool (l.any p)) := by
  refine FnC.of (fn := Try.f52) ⟨Try.func52, by kernel_rfl, rfl⟩ Try.ntmps52 (by simp) fun w0 S0 => ?_
  refine p_seq (p_region fun hf => ?_)
  refine p_assign (h := ?_)
  refine p_end ?_
  refine p_seq (p_region fun hf => ?_)
  refine p_move (h := ?_)
  refine p_move (h := ?_)
  refine p_call (vs := [.sl 126 (l.map sinkV), .fn fid cap]) (hx := rfl) (hb := ⟨Try.func76, by kernel_rfl, rfl⟩) (hro := by simp [V.outs, V.out, hcap]) (hf := indexFunc_sink p l hl fid fn code cap hcap hb hp) (h := ?_)
  refine p_num (h := ?_)
  refine p_assign (h := ?_)
  refine p_end ?_
  refine TrC.ret ?_
  refine p_ret1 (hp := by rw [idx_nonneg])

end Go.Proofs.Ytfjciangbmjlmaa
