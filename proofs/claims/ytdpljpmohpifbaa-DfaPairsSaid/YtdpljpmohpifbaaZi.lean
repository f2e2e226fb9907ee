/-
  The reference's alike and classes, walked: they answer as dfa's.
-/
import Derived.Test.YtdpljpmohpifbaaZh
set_option linter.unusedSimpArgs false
set_option linter.unusedVariables false
namespace Go.Proofs.Ytdpljpmohpifbaa
open Go.RowKit
theorem nm_at {κ : Type} [DecidableEq κ] {l : List κ} {x : κ} {k : Nat} (hk : k < l.length) (h : l[k] = x) (hn : ∀ q (hq : q < l.length), q < k → l[q] ≠ x) : nmOf x l = (k : Int) := by
  rw [nmOf_mem (by rw [← h]; exact List.getElem_mem hk)]
  congr 1
  exact (List.findIdx_eq hk).2 ⟨by simpa using h, fun j hj => by simpa using hn j (by omega) hj⟩
/-- The places at which something new comes. -/
def newsAt {κ : Type} [DecidableEq κ] (f : Nat → κ) : Nat → List Nat
  | 0 => []
  | n + 1 => if f n ∈ firsts f n then newsAt f n else newsAt f n ++ [n]
theorem news_map {κ : Type} [DecidableEq κ] (f : Nat → κ) : ∀ n, (newsAt f n).map f = firsts f n
  | 0 => rfl
  | n + 1 => by
    rw [newsAt, firsts]
    split
    · exact news_map f n
    · rw [List.map_append, news_map f n]; rfl
theorem news_len {κ : Type} [DecidableEq κ] (f : Nat → κ) (n : Nat) : (newsAt f n).length = (firsts f n).length := by rw [← news_map f n, List.length_map]
theorem news_lt {κ : Type} [DecidableEq κ] (f : Nat → κ) : ∀ n, ∀ j ∈ newsAt f n, j < n
  | 0, j, h => by simp [newsAt] at h
  | n + 1, j, h => by
    rw [newsAt] at h
    split at h
    · have := news_lt f n j h; omega
    · rcases List.mem_append.1 h with h | h
      · have := news_lt f n j h; omega
      · simp at h; omega
theorem news_get {κ : Type} [DecidableEq κ] (f : Nat → κ) {n q : Nat} (h : q < (newsAt f n).length) (h' : q < (firsts f n).length) : (firsts f n)[q] = f (newsAt f n)[q] := by
  have : (firsts f n)[q]? = ((newsAt f n).map f)[q]? := by rw [news_map]
  simpa [h, h'] using this
theorem news_all {κ : Type} [DecidableEq κ] {f : Nat → κ} {n : Nat} {x : κ} (h : ∀ q (hq : q < (newsAt f n).length), f (newsAt f n)[q] ≠ x) : x ∉ firsts f n := by
  intro hx
  rw [← news_map] at hx
  obtain ⟨j, hj, rfl⟩ := List.mem_map.1 hx
  obtain ⟨q, hq, rfl⟩ := List.mem_iff_getElem.1 hj
  exact h q hq rfl
theorem rank_found {κ : Type} [DecidableEq κ] {f : Nat → κ} {n i k : Nat} (hi : i < n) (hk : k < (newsAt f i).length) (h : f (newsAt f i)[k] = f i) (hn : ∀ q (hq : q < (newsAt f i).length), q < k → f (newsAt f i)[q] ≠ f i) : f i ∈ firsts f i ∧ (rank f n i : Int) = k := by
  have hk' : k < (firsts f i).length := by rw [← news_len]; exact hk
  have hm : f i ∈ firsts f i := by rw [← h, ← news_get f hk hk']; exact List.getElem_mem hk'
  refine ⟨hm, ?_⟩
  rw [← rank_old f hi hm]
  exact nm_at hk' (by rw [news_get f hk hk']; exact h) fun q hq hqk => by
    have hq' : q < (newsAt f i).length := by rw [news_len]; exact hq
    rw [news_get f hq' hq]; exact hn q hq' hqk
theorem news_new {κ : Type} [DecidableEq κ] (f : Nat → κ) {i : Nat} (h : f i ∉ firsts f i) : newsAt f (i + 1) = newsAt f i ++ [i] := by rw [newsAt, if_neg h]
theorem news_old {κ : Type} [DecidableEq κ] (f : Nat → κ) {i : Nat} (h : f i ∈ firsts f i) : newsAt f (i + 1) = newsAt f i := by rw [newsAt, if_pos h]
theorem nat_ne {x y : Nat} (h : decide ((x : Int) ≠ (y : Int)) = true) : x ≠ y := by simp at h; omega
theorem nat_eq {x y : Nat} (h : decide ((x : Int) ≠ (y : Int)) = false) : x = y := by simp at h; omega
namespace Dfa
/-- The classes so far, as a list. -/
def ofL (d : Dfa) (K : Nat) : List Int := (List.range d.n).map fun j => (d.ofs K j : Int)
theorem ofL_len (d : Dfa) (K : Nat) : (d.ofL K).length = d.n := by simp [ofL]
theorem ofL_get {d : Dfa} {K i : Nat} (h : i < (d.ofL K).length) : (d.ofL K)[i] = (d.ofs K i : Int) := by simp [ofL]
theorem sig_eq {d : Dfa} (h : d.Ok) (f : Nat → Nat) {a b : Nat} (ha : a < d.n) (hb : b < d.n) : d.sig f a = d.sig f b ↔ f a = f b ∧ ∀ j : Nat, (j : Int) < d.sym → f (d.nx a j) = f (d.nx b j) := by
  have hla := h.row_len ha
  have hlb := h.row_len hb
  rw [sig, sig, List.cons.injEq]
  refine and_congr Iff.rfl ⟨fun he j hj => ?_, fun he => ?_⟩
  · have := congrArg (fun l => l.getD j 0) he
    have hja : j < (d.row a).length := by omega
    have hjb : j < (d.row b).length := by omega
    simp only [List.getD, List.getElem?_map, List.getElem?_eq_getElem hja, List.getElem?_eq_getElem hjb, Option.map_some, Option.getD_some] at this
    simpa only [nx, List.getD, List.getElem?_eq_getElem hja, List.getElem?_eq_getElem hjb, Option.getD_some] using this
  · refine List.ext_getElem (by simp; omega) fun j h1 h2 => ?_
    simp only [List.length_map] at h1 h2
    have := he j (by omega)
    simpa only [nx, List.getD, List.getElem?_eq_getElem h1, List.getElem?_eq_getElem h2, Option.getD_some, List.getElem_map] using this
end Dfa

theorem alikeR (d : Dfa) (h : d.Ok) (K a b : Nat) (ha : a < d.n) (hb : b < d.n) : FnC Try.prog 59 [dfaV d, .sl 3 ((d.ofL K).map iV), iV a, iV b] (fun r => r = .bool (decide (d.sig (d.ofs K) a = d.sig (d.ofs K) b))) := by
  refine FnC.of (fn := Try.f59) ⟨Try.func59, by kernel_rfl, rfl⟩ Try.ntmps59 (by simp) fun w0 S0 => ?_
  have hn : d.n = d.next.length := rfl
  have hacc := h.acc
  have ha2 : a < (d.ofL K).length := by rw [Dfa.ofL_len]; exact ha
  have hb2 : b < (d.ofL K).length := by rw [Dfa.ofL_len]; exact hb
  have ha3 : a < d.acc.length := by omega
  have hb3 : b < d.acc.length := by omega
  have ha4 : a < d.next.length := by omega
  have hb4 : b < d.next.length := by omega
  have hse := Dfa.sig_eq h (d.ofs K) ha hb
  refine p_seq (p_region fun hf => ?_)
  refine p_box (h := ?_)
  refine p_assign (h := ?_)
  refine p_end ?_
  refine p_seq ?_
  refine p_seq (p_draw F.mixed fun hf => ?_)
  refine p_move (h := ?_)
  refine p_move (h := ?_)
  refine p_idxMap (j := a) (ht := Try.underlying26) (hi := F.ti3) (hij := rfl) (hj := ha2) (h := ?_)
  rw [Dfa.ofL_get ha2]
  (first | refine p_load (ht := F.leaf3) (h := ?_) | refine p_loadRef (ht := F.leaf3) (h := ?_))
  refine p_move (h := ?_)
  refine p_move (h := ?_)
  refine p_idxMap (j := b) (ht := Try.underlying26) (hi := F.ti3) (hij := rfl) (hj := hb2) (h := ?_)
  rw [Dfa.ofL_get hb2]
  (first | refine p_load (ht := F.leaf3) (h := ?_) | refine p_loadRef (ht := F.leaf3) (h := ?_))
  refine p_num (h := ?_)
  refine p_move (h := ?_)
  refine p_split (s := 19) (ht := fun hb19 => ?_) (hf := fun hb19 => ?_)
  · -- slot 19 is true
    iterate 11 (refine p_guardNo (h := ?_))
    refine p_pick (h := ?_)
    refine p_endD ?_
    refine p_condT (h := ?_)
    refine p_seq (p_region fun hf => ?_)
    refine p_assign (h := ?_)
    refine p_end ?_
    refine TrC.ret ?_
    refine p_ret1 (hp := by rw [decide_eq_false fun e => (nat_ne hb19) (hse.1 e).1])
  · -- slot 19 is false
    refine p_guardYes (h := ?_)
    (first | refine p_fieldPtr (hf := F.fld25_2) (h := ?_) | refine p_fieldRef (hf := F.fld25_2) (h := ?_) | refine p_fieldRow (hf := F.fld25_2) (h := ?_))
    refine p_guardYes (h := ?_)
    (first | refine p_load (ht := F.leaf23) (h := ?_) | refine p_loadRef (ht := F.leaf23) (h := ?_))
    refine p_guardYes (h := ?_)
    refine p_move (h := ?_)
    refine p_guardYes (h := ?_)
    refine p_idxMap (j := a) (ht := Try.underlying23) (hi := F.ti4) (hij := rfl) (hj := ha3) (h := ?_)
    rw [Dfa.ac_is ha3]
    refine p_guardYes (h := ?_)
    (first | refine p_load (ht := F.leaf4) (h := ?_) | refine p_loadRef (ht := F.leaf4) (h := ?_))
    refine p_guardYes (h := ?_)
    (first | refine p_fieldPtr (hf := F.fld25_2) (h := ?_) | refine p_fieldRef (hf := F.fld25_2) (h := ?_) | refine p_fieldRow (hf := F.fld25_2) (h := ?_))
    refine p_guardYes (h := ?_)
    (first | refine p_load (ht := F.leaf23) (h := ?_) | refine p_loadRef (ht := F.leaf23) (h := ?_))
    refine p_guardYes (h := ?_)
    refine p_move (h := ?_)
    refine p_guardYes (h := ?_)
    refine p_idxMap (j := b) (ht := Try.underlying23) (hi := F.ti4) (hij := rfl) (hj := hb3) (h := ?_)
    rw [Dfa.ac_is hb3]
    refine p_guardYes (h := ?_)
    (first | refine p_load (ht := F.leaf4) (h := ?_) | refine p_loadRef (ht := F.leaf4) (h := ?_))
    refine p_guardYes (h := ?_)
    refine p_neB (ht := Try.underlying4) (h := ?_)
    refine p_pick (h := ?_)
    refine p_endD ?_
    refine p_splitC (s := 31) (ht := fun hc31 => ?_) (hf := fun hc31 => ?_)
    · refine p_condT (h := ?_)
      refine p_seq (p_region fun hf => ?_)
      refine p_assign (h := ?_)
      refine p_end ?_
      refine TrC.ret ?_
      refine p_ret1 (hp := by rw [decide_eq_false fun e => by rw [d.ofs_ac K a b ha hb (hse.1 e).1] at hc31; simp at hc31])
    · refine p_condF (h := ?_)
      refine p_skip ?_
      refine p_seq ?_
      refine p_seq (p_region fun hf => ?_)
      refine p_assign (h := ?_)
      refine p_end ?_
      refine TrC.block ?_
      refine p_loop (fun st => ∃ k : Nat, (k : Int) ≤ d.sym ∧ (∀ j, j < k → d.ofs K (d.nx a j) = d.ofs K (d.nx b j)) ∧ st.env 1 = .sl 3 ((d.ofL K).map iV) ∧ st.env 2 = iV a ∧ st.env 3 = iV b ∧ st.env 4 = .ptr (0 + 1) 4 0 ∧ st.env 9 = iV k ∧ st.obj (0 + 1) 4 = .cells 25 (dfaL d)) (fun st => d.sym.toNat - (st.env 9).toN) ?_ fun e ob g1 hI => ?_
      · exact ⟨0, h.sym0, fun j h => by omega, eV_, eV_, eV_, eV_, eV_, oB_⟩
      · obtain ⟨k, hk, hal, e1, e2, e3, e4, e9, o4⟩ := hI
        dsimp only at e1 e2 e3 e4 e9 o4
        have hE := (⟨e1, e2, e3, e4, e9, o4⟩ : _ ∧ _ ∧ _ ∧ _ ∧ _ ∧ _)
        have hs1 := h.sym1
        refine p_seq ?_
        refine p_seq (p_region fun hf => ?_)
        refine p_move (h := ?_)
        (first | refine p_fieldPtr (hf := F.fld25_0) (h := ?_) | refine p_fieldRef (hf := F.fld25_0) (h := ?_) | refine p_fieldRow (hf := F.fld25_0) (h := ?_))
        (first | refine p_load (ht := F.leaf3) (h := ?_) | refine p_loadRef (ht := F.leaf3) (h := ?_))
        refine p_num (h := ?_)
        refine p_end ?_
        refine p_splitC (s := 35) (ht := fun hc35 => ?_) (hf := fun hc35 => ?_)
        · refine p_condT (h := ?_)
          have hks : (k : Int) < d.sym := by simpa using hc35
          have hka := Dfa.row_len' h ha4 hks
          have hkb := Dfa.row_len' h hb4 hks
          have hna : d.nx a k < (d.ofL K).length := by rw [Dfa.ofL_len]; exact h.nx_lt ha hks
          have hnb : d.nx b k < (d.ofL K).length := by rw [Dfa.ofL_len]; exact h.nx_lt hb hks
          refine p_skip ?_
          refine p_seq ?_
          refine TrC.block ?_
          refine p_seq (p_draw F.mixed fun hf => ?_)
          refine p_move (h := ?_)
          (first | refine p_fieldPtr (hf := F.fld25_1) (h := ?_) | refine p_fieldRef (hf := F.fld25_1) (h := ?_) | refine p_fieldRow (hf := F.fld25_1) (h := ?_))
          (first | refine p_load (ht := F.leaf22) (h := ?_) | refine p_loadRef (ht := F.leaf22) (h := ?_))
          refine p_move (h := ?_)
          refine p_idxMap (j := a) (ht := Try.underlying22) (hi := F.ti26) (hij := rfl) (hj := ha4) (h := ?_)
          (first | refine p_load (ht := F.leaf26) (h := ?_) | refine p_loadRef (ht := F.leaf26) (h := ?_))
          refine p_move (h := ?_)
          refine p_idxMap (j := k) (ht := Try.underlying26) (hi := F.ti3) (hij := rfl) (hj := hka) (h := ?_)
          (first | refine p_load (ht := F.leaf3) (h := ?_) | refine p_loadRef (ht := F.leaf3) (h := ?_))
          refine p_idxMap (j := d.nx a k) (ht := Try.underlying26) (hi := F.ti3) (hij := Dfa.nx_is h ha4 hka) (hj := hna) (h := ?_)
          rw [Dfa.ofL_get hna]
          (first | refine p_load (ht := F.leaf3) (h := ?_) | refine p_loadRef (ht := F.leaf3) (h := ?_))
          refine p_move (h := ?_)
          (first | refine p_fieldPtr (hf := F.fld25_1) (h := ?_) | refine p_fieldRef (hf := F.fld25_1) (h := ?_) | refine p_fieldRow (hf := F.fld25_1) (h := ?_))
          (first | refine p_load (ht := F.leaf22) (h := ?_) | refine p_loadRef (ht := F.leaf22) (h := ?_))
          refine p_move (h := ?_)
          refine p_idxMap (j := b) (ht := Try.underlying22) (hi := F.ti26) (hij := rfl) (hj := hb4) (h := ?_)
          (first | refine p_load (ht := F.leaf26) (h := ?_) | refine p_loadRef (ht := F.leaf26) (h := ?_))
          refine p_move (h := ?_)
          refine p_idxMap (j := k) (ht := Try.underlying26) (hi := F.ti3) (hij := rfl) (hj := hkb) (h := ?_)
          (first | refine p_load (ht := F.leaf3) (h := ?_) | refine p_loadRef (ht := F.leaf3) (h := ?_))
          refine p_idxMap (j := d.nx b k) (ht := Try.underlying26) (hi := F.ti3) (hij := Dfa.nx_is h hb4 hkb) (hj := hnb) (h := ?_)
          rw [Dfa.ofL_get hnb]
          (first | refine p_load (ht := F.leaf3) (h := ?_) | refine p_loadRef (ht := F.leaf3) (h := ?_))
          refine p_num (h := ?_)
          refine p_endD ?_
          refine p_splitC (s := 60) (ht := fun hc60 => ?_) (hf := fun hc60 => ?_)
          · refine p_condT (h := ?_)
            refine p_seq (p_region fun hf => ?_)
            refine p_assign (h := ?_)
            refine p_end ?_
            refine TrC.ret ?_
            refine p_ret1 (hp := by rw [decide_eq_false fun e => (nat_ne hc60) ((hse.1 e).2 k hks)])
          · refine p_condF (h := ?_)
            refine p_skip ?_
            refine p_region fun hf => ?_
            refine p_move (h := ?_)
            refine p_add (r := ((k + 1 : Nat) : Int)) (hr := by omega) (hb := by omega) (h := ?_)
            refine p_assign (h := ?_)
            refine p_end ?_
            refine p_some ?_
            refine ⟨⟨k + 1, by omega, fun j hj => ?_, eV_, eV_, eV_, eV_, eV_, oB_⟩, ?_⟩
            · rcases Nat.lt_succ_iff_lt_or_eq.1 hj with h | h
              · exact hal j h
              · subst h; exact nat_eq hc60
            · simp (decide := true) only [upd, e9, V.toN, ↓reduceIte]; omega
        · refine p_condF (h := ?_)
          refine p_exit ?_
          refine p_seq (p_region fun hf => ?_)
          refine p_assign (h := ?_)
          refine p_end ?_
          refine TrC.ret ?_
          refine p_ret1 (hp := by rw [decide_eq_true (hse.2 ⟨nat_eq hb19, fun j hj => hal j (by simp at hc35; omega)⟩)])

theorem classesR (d : Dfa) (h : d.Ok) : FnC Try.prog 54 [dfaV d] (fun r => r = .sl 3 (d.clsL.map iV)) := by
  refine FnC.of (fn := Try.f54) ⟨Try.func54, by kernel_rfl, rfl⟩ Try.ntmps54 (by simp) fun w0 S0 => ?_
  have hn1 := h.n1
  have hacc := h.acc
  have hn : d.n = d.next.length := rfl
  refine p_seq (p_region fun hf => ?_)
  refine p_box (h := ?_)
  refine p_assign (h := ?_)
  refine p_end ?_
  refine p_seq (p_region fun hf => ?_)
  (first | refine p_fieldPtr (hf := F.fld25_1) (h := ?_) | refine p_fieldRef (hf := F.fld25_1) (h := ?_) | refine p_fieldRow (hf := F.fld25_1) (h := ?_))
  (first | refine p_load (ht := F.leaf22) (h := ?_) | refine p_loadRef (ht := F.leaf22) (h := ?_))
  refine p_len (ht := Try.underlying22) (h := ?_)
  refine p_assign (h := ?_)
  refine p_end ?_
  refine p_seq (p_region fun hf => ?_)
  refine p_move (h := ?_)
  refine p_make (n := d.n) (ht := Try.underlying26) (hi := F.ti3) (hz := rfl) (hzv := rfl) (hro := rfl) (hb := by omega) (h63 := by omega) (h := ?_)
  refine p_assign (h := ?_)
  refine p_end ?_
  refine p_seq ?_
  refine p_seq (p_region fun hf => ?_)
  refine p_assign (h := ?_)
  refine p_end ?_
  refine TrC.block ?_
  refine p_loop (fun st => ∃ i : Nat, i ≤ d.n ∧ st.env 1 = .ptr (0 + 1) 1 0 ∧ st.env 3 = iV d.n ∧ st.env 4 = .row (0 + 1 + 1 + 1) 15 d.n ∧ st.env 5 = iV i ∧ st.obj (0 + 1) 1 = .cells 25 (dfaL d) ∧ st.obj (0 + 1 + 1 + 1) 15 = .row 3 ((List.range d.n).map fun j => iV (if j < i then (d.ofs 0 j : Int) else 0))) (fun st => d.n - (st.env 5).toN) ?_ fun e ob g1 hI => ?_
  · exact ⟨0, by omega, eV_, eV_, eV_, eV_, oB_, by refine Eq.trans oB_ ?_; rw [replicate_range]; rfl⟩
  · obtain ⟨i, hi, e1, e3, e4, e5, o1, o15⟩ := hI
    dsimp only at e1 e3 e4 e5 o1 o15
    have hE := (⟨e1, e3, e4, e5, o1, o15⟩ : _ ∧ _ ∧ _ ∧ _ ∧ _ ∧ _)
    refine p_seq ?_
    refine p_seq (p_region fun hf => ?_)
    refine p_move (h := ?_)
    refine p_move (h := ?_)
    refine p_num (h := ?_)
    refine p_end ?_
    refine p_splitC (s := 18) (ht := fun hc18 => ?_) (hf := fun hc18 => ?_)
    · refine p_condT (h := ?_)
      have hltn : i < d.n := by simpa using hc18
      have hlt1 : i < d.acc.length := by omega
      refine p_skip ?_
      refine p_seq ?_
      refine TrC.block ?_
      refine p_seq (p_region fun hf => ?_)
      (first | refine p_fieldPtr (hf := F.fld25_2) (h := ?_) | refine p_fieldRef (hf := F.fld25_2) (h := ?_) | refine p_fieldRow (hf := F.fld25_2) (h := ?_))
      (first | refine p_load (ht := F.leaf23) (h := ?_) | refine p_loadRef (ht := F.leaf23) (h := ?_))
      refine p_move (h := ?_)
      refine p_idxMap (j := i) (ht := Try.underlying23) (hi := F.ti4) (hij := rfl) (hj := hlt1) (h := ?_)
      (first | refine p_load (ht := F.leaf4) (h := ?_) | refine p_loadRef (ht := F.leaf4) (h := ?_))
      refine p_end ?_
      refine p_splitC (s := 25) (ht := fun hc25 => ?_) (hf := fun hc25 => ?_)
      · refine p_condT (h := ?_)
        refine p_region fun hf => ?_
        refine p_move (h := ?_)
        refine p_move (h := ?_)
        refine p_idxRowN (i) (ht := Try.underlying26) (hi := F.ti3) (hij := rfl) (hlt := hltn) (h := ?_)
        refine p_storeRowF (f' := fun j => iV (if j < i + 1 then (d.ofs 0 j : Int) else 0)) F.ti3 (TI.cells F.ti3) (hlt := hltn) (hf := fun j _ => set_next (F := fun j => (d.ofs 0 j : Int)) (by simp [Dfa.ofs, ← Dfa.ac_is hlt1, hc25]) j) (h := ?_)
        refine p_end ?_
        refine p_region fun hf => ?_
        refine p_move (h := ?_)
        refine p_add (r := ((i + 1 : Nat) : Int)) (hr := by omega) (hb := by omega) (h := ?_)
        refine p_assign (h := ?_)
        refine p_end ?_
        refine p_some ?_
        refine ⟨⟨i + 1, by omega, eV_, eV_, eV_, eV_, oB_, oB_⟩, ?_⟩
        simp (decide := true) only [upd, e5, V.toN, ↓reduceIte]; omega
      · refine p_condF (h := ?_)
        refine p_skip ?_
        refine p_region fun hf => ?_
        refine p_move (h := ?_)
        refine p_add (r := ((i + 1 : Nat) : Int)) (hr := by omega) (hb := by omega) (h := ?_)
        refine p_assign (h := ?_)
        refine p_end ?_
        refine p_some ?_
        refine ⟨⟨i + 1, by omega, eV_, eV_, eV_, eV_, oB_, by refine Eq.trans oB_ ?_; exact congrArg (Ob.row _) (List.map_congr_left fun j _ => skip_next (F := fun j => (d.ofs 0 j : Int)) (by simp [Dfa.ofs, ← Dfa.ac_is hlt1, hc25]) j)⟩, ?_⟩
        simp (decide := true) only [upd, e5, V.toN, ↓reduceIte]; omega
    · refine p_condF (h := ?_)
      have hie : i = d.n := by simp at hc18; omega
      refine p_exit ?_
      refine p_seq (p_region fun hf => ?_)
      refine p_assign (h := ?_)
      refine p_end ?_
      refine p_freeze (g1 := 0 + 1 + 1 + 1) (d1 := 15) (h := ?_)
      refine p_toSl (s := 4) (hn := by simp) (h := ?_)
      refine TrC.block ?_
      refine p_loop (fun st => ∃ K : Nat, (∀ j, j < K → d.cnt (j + 1) ≠ d.cnt j) ∧ st.env 1 = .ptr (0 + 1) 1 0 ∧ st.env 3 = iV d.n ∧ st.env 4 = .sl 3 ((d.ofL K).map iV) ∧ st.env 6 = iV (d.cnt K) ∧ st.obj (0 + 1) 1 = .cells 25 (dfaL d)) (fun st => d.n - (st.env 6).toN) ?_ fun e ob g2 hI => ?_
      · exact ⟨0, fun j h => by omega, eV_, eV_, by refine Eq.trans eV_ ?_; rw [hie, Dfa.ofL, List.map_map]; exact congrArg (V.sl _) (List.map_congr_left fun j hj => by rw [if_pos (by simpa using hj)]; rfl), eV_, oB_⟩
      · obtain ⟨K, hne, f1, f3, f4, f6, p1⟩ := hI
        dsimp only at f1 f3 f4 f6 p1
        have hE := (⟨f1, f3, f4, f6, p1⟩ : _ ∧ _ ∧ _ ∧ _ ∧ _)
        have hcl := d.cnt_le K
        have hcl' := d.cnt_le (K + 1)
        refine TrC.block ?_
        refine p_seq (p_region fun hf => ?_)
        refine p_move (h := ?_)
        refine p_make (n := d.n) (ht := Try.underlying26) (hi := F.ti3) (hz := rfl) (hzv := rfl) (hro := rfl) (hb := by omega) (h63 := by omega) (h := ?_)
        refine p_assign (h := ?_)
        refine p_end ?_
        refine p_seq (p_region fun hf => ?_)
        refine p_assign (h := ?_)
        refine p_end ?_
        refine p_seq ?_
        refine p_seq (p_region fun hf => ?_)
        refine p_assign (h := ?_)
        refine p_end ?_
        refine p_nilSlot (s := 8) (el := 3) 60 (h := ?_)
        refine TrC.block ?_
        refine p_loop (fun st => ∃ i r : Nat, i ≤ d.n ∧ st.env 1 = .ptr (0 + 1) 1 0 ∧ st.env 3 = iV d.n ∧ st.env 4 = .sl 3 ((d.ofL K).map iV) ∧ st.env 6 = iV (d.cnt K) ∧ st.env 7 = .row (g2 + 1) 30 d.n ∧ st.env 8 = .row r 60 (newsAt (d.sig (d.ofs K)) i).length ∧ st.env 9 = iV i ∧ st.obj (0 + 1) 1 = .cells 25 (dfaL d) ∧ st.obj (g2 + 1) 30 = .row 3 ((List.range d.n).map fun j => iV (if j < i then (rank (d.sig (d.ofs K)) d.n j : Int) else 0)) ∧ st.obj r 60 = .row 3 ((newsAt (d.sig (d.ofs K)) i).map fun j : Nat => iV (j : Int))) (fun st => d.n - (st.env 9).toN) ?_ fun e ob g3 hI => ?_
        · exact ⟨0, _, by omega, eV_, eV_, eV_, eV_, eV_, eV_, eV_, oB_, by refine Eq.trans oB_ ?_; rw [replicate_range]; rfl, oB_⟩
        · obtain ⟨i, r, hi, e1, e3, e4, e6, e7, e8, e9, o1, o30, o60⟩ := hI
          dsimp only at e1 e3 e4 e6 e7 e8 e9 o1 o30 o60
          have hE := (⟨e1, e3, e4, e6, e7, e8, e9, o1, o30, o60⟩ : _ ∧ _ ∧ _ ∧ _ ∧ _ ∧ _ ∧ _ ∧ _ ∧ _ ∧ _)
          have hnl := news_len (d.sig (d.ofs K)) i
          have hfl := firsts_le (d.sig (d.ofs K)) i
          refine p_seq ?_
          refine p_seq (p_region fun hf => ?_)
          refine p_move (h := ?_)
          refine p_move (h := ?_)
          refine p_num (h := ?_)
          refine p_end ?_
          refine p_splitC (s := 33) (ht := fun hc33 => ?_) (hf := fun hc33 => ?_)
          · refine p_condT (h := ?_)
            have hlt : i < d.n := by simpa using hc33
            refine p_skip ?_
            refine p_seq ?_
            refine TrC.block ?_
            refine p_seq (p_region fun hf => ?_)
            refine p_assign (h := ?_)
            refine p_end ?_
            refine p_seq ?_
            refine TrC.block ?_
            refine p_loop (fun st => ∃ k : Nat, k ≤ (newsAt (d.sig (d.ofs K)) i).length ∧ (∀ q (hq : q < (newsAt (d.sig (d.ofs K)) i).length), q < k → (d.sig (d.ofs K)) (newsAt (d.sig (d.ofs K)) i)[q] ≠ (d.sig (d.ofs K)) i) ∧ st.env 1 = .ptr (0 + 1) 1 0 ∧ st.env 3 = iV d.n ∧ st.env 4 = .sl 3 ((d.ofL K).map iV) ∧ st.env 6 = iV (d.cnt K) ∧ st.env 7 = .row (g2 + 1) 30 d.n ∧ st.env 8 = .row r 60 (newsAt (d.sig (d.ofs K)) i).length ∧ st.env 9 = iV i ∧ st.env 10 = iV k ∧ st.obj (0 + 1) 1 = .cells 25 (dfaL d) ∧ st.obj (g2 + 1) 30 = .row 3 ((List.range d.n).map fun j => iV (if j < i then (rank (d.sig (d.ofs K)) d.n j : Int) else 0)) ∧ st.obj r 60 = .row 3 ((newsAt (d.sig (d.ofs K)) i).map fun j : Nat => iV (j : Int))) (fun st => (newsAt (d.sig (d.ofs K)) i).length - (st.env 10).toN) ?_ fun e ob g4 hI => ?_
            · exact ⟨0, by omega, fun q hq h => by omega, eV_, eV_, eV_, eV_, eV_, eV_, eV_, eV_, oB_, oB_, oB_⟩
            · obtain ⟨k, hk, hno, d1, d3, d4, d6, d7, d8, d9, d10, b1, b30, b60⟩ := hI
              dsimp only at d1 d3 d4 d6 d7 d8 d9 d10 b1 b30 b60
              have hE := (⟨d1, d3, d4, d6, d7, d8, d9, d10, b1, b30, b60⟩ : _ ∧ _ ∧ _ ∧ _ ∧ _ ∧ _ ∧ _ ∧ _ ∧ _ ∧ _ ∧ _)
              refine p_seq ?_
              refine p_seq (p_draw F.mixed fun hf => ?_)
              refine p_move (h := ?_)
              refine p_move (h := ?_)
              refine p_len (ht := Try.underlying26) (h := ?_)
              refine p_num (h := ?_)
              refine p_move (h := ?_)
              refine p_split (s := 40) (ht := fun hb40 => ?_) (hf := fun hb40 => ?_)
              · -- slot 40 is true
                have hk2 : k < (newsAt (d.sig (d.ofs K)) i).length := by simpa using hb40
                refine p_guardYes (h := ?_)
                (first | refine p_loadA (ht := F.agg25) (hi := F.ti25) (h := ?_) | refine p_loadRefA (ht := F.agg25) (hi := F.ti25) (h := ?_))
                refine p_guardYes (h := ?_)
                refine p_move (h := ?_)
                refine p_guardYes (h := ?_)
                refine p_move (h := ?_)
                refine p_guardYes (h := ?_)
                refine p_move (h := ?_)
                refine p_guardYes (h := ?_)
                refine p_idxRowN (k) (ht := Try.underlying26) (hi := F.ti3) (hij := rfl) (hlt := hk2) (h := ?_)
                refine p_guardYes (h := ?_)
                refine p_loadRowM (ht := F.leaf3) (hj := hk2) (h := ?_)
                refine p_guardYes (h := ?_)
                refine p_move (h := ?_)
                refine p_guardYes (h := ?_)
                refine p_call (hx := rfl) (hb := ⟨Try.func59, by kernel_rfl, rfl⟩) (hf := alikeR d h K (newsAt (d.sig (d.ofs K)) i)[k] i (by have := news_lt (d.sig (d.ofs K)) i _ (List.getElem_mem hk2); omega) hlt) (h := ?_)
                refine p_guardYes (h := ?_)
                refine p_not (h := ?_)
                refine p_pick (h := ?_)
                refine p_endD ?_
                refine p_splitC (s := 50) (ht := fun hc50 => ?_) (hf := fun hc50 => ?_)
                · refine p_condT (h := ?_)
                  refine p_skip ?_
                  refine TrC.block ?_
                  refine p_region fun hf => ?_
                  refine p_move (h := ?_)
                  refine p_add (r := ((k + 1 : Nat) : Int)) (hr := by omega) (hb := by omega) (h := ?_)
                  refine p_assign (h := ?_)
                  refine p_end ?_
                  refine p_some ?_
                  refine ⟨⟨k + 1, hk2, fun q hq hqk => ?_, eV_, eV_, eV_, eV_, eV_, eV_, eV_, eV_, oB_, oB_, oB_⟩, ?_⟩
                  · rcases Nat.lt_succ_iff_lt_or_eq.1 hqk with h | h
                    · exact hno q hq h
                    · subst h; simpa using hc50
                  · simp (decide := true) only [upd, d10, V.toN, ↓reduceIte]; omega
                · refine p_condF (h := ?_)
                  have hfound := rank_found hlt hk2 (by simpa using hc50) hno
                  refine p_exit ?_
                  refine p_seq ?_
                  refine p_seq (p_region fun hf => ?_)
                  refine p_move (h := ?_)
                  refine p_move (h := ?_)
                  refine p_len (ht := Try.underlying26) (h := ?_)
                  refine p_num (h := ?_)
                  refine p_end ?_
                  refine p_splitC (s := 56) (ht := fun hc56 => ?_) (hf := fun hc56 => ?_)
                  · refine p_condT (h := ?_)
                    refine p_region fun hf => ?_
                    refine p_move (h := ?_)
                    refine p_move (h := ?_)
                    refine p_buildSlice (ht := Try.underlying26) (hi := F.ti3) (h := ?_)
                    refine p_append (k := (newsAt (d.sig (d.ofs K)) i).length + 1) (ht := Try.underlying26) (hi := F.ti3) (hnl := by simp) (hy := by exact ⟨.inl oB_, rfl⟩) (hm := by simp) (hlim := by omega) (h := ?_)
                    refine p_assign (h := ?_)
                    refine p_end ?_
                    refine p_region fun hf => ?_
                    refine p_move (h := ?_)
                    refine p_move (h := ?_)
                    refine p_move (h := ?_)
                    refine p_idxRowN (i) (ht := Try.underlying26) (hi := F.ti3) (hij := rfl) (hlt := hlt) (h := ?_)
                    refine p_storeRowF (f' := fun j => iV (if j < i + 1 then (rank (d.sig (d.ofs K)) d.n j : Int) else 0)) F.ti3 (TI.cells F.ti3) (hlt := hlt) (hf := fun j _ => set_next (F := fun j => (rank (d.sig (d.ofs K)) d.n j : Int)) (by exfalso; simp at hc56; omega) j) (h := ?_)
                    refine p_end ?_
                    refine p_region fun hf => ?_
                    refine p_move (h := ?_)
                    refine p_add (r := ((i + 1 : Nat) : Int)) (hr := by omega) (hb := by omega) (h := ?_)
                    refine p_assign (h := ?_)
                    refine p_end ?_
                    refine p_some ?_
                    exfalso; simp at hc56; omega
                  · refine p_condF (h := ?_)
                    refine p_skip ?_
                    refine p_region fun hf => ?_
                    refine p_move (h := ?_)
                    refine p_move (h := ?_)
                    refine p_move (h := ?_)
                    refine p_idxRowN (i) (ht := Try.underlying26) (hi := F.ti3) (hij := rfl) (hlt := hlt) (h := ?_)
                    refine p_storeRowF (f' := fun j => iV (if j < i + 1 then (rank (d.sig (d.ofs K)) d.n j : Int) else 0)) F.ti3 (TI.cells F.ti3) (hlt := hlt) (hf := fun j _ => set_next (F := fun j => (rank (d.sig (d.ofs K)) d.n j : Int)) hfound.2 j) (h := ?_)
                    refine p_end ?_
                    refine p_region fun hf => ?_
                    refine p_move (h := ?_)
                    refine p_add (r := ((i + 1 : Nat) : Int)) (hr := by omega) (hb := by omega) (h := ?_)
                    refine p_assign (h := ?_)
                    refine p_end ?_
                    refine p_some ?_
                    have hx := news_old (d.sig (d.ofs K)) hfound.1
                    refine ⟨⟨i + 1, _, hlt, eV_, eV_, eV_, eV_, eV_, by rw [hx]; exact eV_, eV_, oB_, oB_, by rw [hx]; exact oB_⟩, ?_⟩
                    simp (decide := true) only [upd, e9, d9, V.toN, ↓reduceIte]; omega
              · -- slot 40 is false
                have hke : k = (newsAt (d.sig (d.ofs K)) i).length := by simp at hb40; omega
                have hnew : (d.sig (d.ofs K)) i ∉ firsts (d.sig (d.ofs K)) i := news_all fun q hq => hno q hq (by omega)
                iterate 9 (refine p_guardNo (h := ?_))
                refine p_pick (h := ?_)
                refine p_endD ?_
                refine p_condF (h := ?_)
                refine p_exit ?_
                refine p_seq ?_
                refine p_seq (p_region fun hf => ?_)
                refine p_move (h := ?_)
                refine p_move (h := ?_)
                refine p_len (ht := Try.underlying26) (h := ?_)
                refine p_num (h := ?_)
                refine p_end ?_
                refine p_splitC (s := 56) (ht := fun hc56 => ?_) (hf := fun hc56 => ?_)
                · refine p_condT (h := ?_)
                  refine p_region fun hf => ?_
                  refine p_move (h := ?_)
                  refine p_move (h := ?_)
                  refine p_buildSlice (ht := Try.underlying26) (hi := F.ti3) (h := ?_)
                  refine p_append (k := (newsAt (d.sig (d.ofs K)) i).length + 1) (ht := Try.underlying26) (hi := F.ti3) (hnl := by simp) (hy := by exact ⟨.inl oB_, rfl⟩) (hm := by simp) (hlim := by omega) (h := ?_)
                  refine p_assign (h := ?_)
                  refine p_end ?_
                  refine p_region fun hf => ?_
                  refine p_move (h := ?_)
                  refine p_move (h := ?_)
                  refine p_move (h := ?_)
                  refine p_idxRowN (i) (ht := Try.underlying26) (hi := F.ti3) (hij := rfl) (hlt := hlt) (h := ?_)
                  refine p_storeRowF (f' := fun j => iV (if j < i + 1 then (rank (d.sig (d.ofs K)) d.n j : Int) else 0)) F.ti3 (TI.cells F.ti3) (hlt := hlt) (hf := fun j _ => set_next (F := fun j => (rank (d.sig (d.ofs K)) d.n j : Int)) (by rw [rank_new _ hlt hnew, hke, news_len]) j) (h := ?_)
                  refine p_end ?_
                  refine p_region fun hf => ?_
                  refine p_move (h := ?_)
                  refine p_add (r := ((i + 1 : Nat) : Int)) (hr := by omega) (hb := by omega) (h := ?_)
                  refine p_assign (h := ?_)
                  refine p_end ?_
                  refine p_renSlot (s := 8) 60 (h := ?_)
                  refine p_some ?_
                  have hx := news_new (d.sig (d.ofs K)) hnew
                  refine ⟨⟨i + 1, _, hlt, eV_, eV_, eV_, eV_, eV_, by rw [hx, List.length_append]; exact eV_, eV_, oB_, oB_, by refine Eq.trans oB_ ?_; rw [hx, List.map_append]; rfl⟩, ?_⟩
                  simp (decide := true) only [upd, e9, d9, V.toN, ↓reduceIte]; omega
                · refine p_condF (h := ?_)
                  refine p_skip ?_
                  refine p_region fun hf => ?_
                  refine p_move (h := ?_)
                  refine p_move (h := ?_)
                  refine p_move (h := ?_)
                  refine p_idxRowN (i) (ht := Try.underlying26) (hi := F.ti3) (hij := rfl) (hlt := hlt) (h := ?_)
                  refine p_storeRowF (f' := fun j => iV (if j < i + 1 then (rank (d.sig (d.ofs K)) d.n j : Int) else 0)) F.ti3 (TI.cells F.ti3) (hlt := hlt) (hf := fun j _ => set_next (F := fun j => (rank (d.sig (d.ofs K)) d.n j : Int)) (by exfalso; simp at hc56; omega) j) (h := ?_)
                  refine p_end ?_
                  refine p_region fun hf => ?_
                  refine p_move (h := ?_)
                  refine p_add (r := ((i + 1 : Nat) : Int)) (hr := by omega) (hb := by omega) (h := ?_)
                  refine p_assign (h := ?_)
                  refine p_end ?_
                  refine p_some ?_
                  exfalso; simp at hc56; omega
          · refine p_condF (h := ?_)
            have hie : i = d.n := by simp at hc33; omega
            subst hie
            refine p_exit ?_
            refine p_seq (p_region fun hf => ?_)
            refine p_move (h := ?_)
            refine p_assign (h := ?_)
            refine p_end ?_
            refine p_seq ?_
            refine p_seq (p_region fun hf => ?_)
            refine p_move (h := ?_)
            refine p_len (ht := Try.underlying26) (h := ?_)
            refine p_move (h := ?_)
            refine p_num (h := ?_)
            refine p_end ?_
            refine p_splitC (s := 69) (ht := fun hc69 => ?_) (hf := fun hc69 => ?_)
            · refine p_condT (h := ?_)
              have hcc : d.cnt (K + 1) = d.cnt K := by rw [news_len] at hc69; exact Int.ofNat_inj.1 (of_decide_eq_true hc69)
              refine p_seq (p_region fun hf => ?_)
              refine p_move (h := ?_)
              refine p_assign (h := ?_)
              refine p_end ?_
              refine TrC.ret ?_
              refine p_freeze (g1 := g2 + 1) (d1 := 30) (h := ?_)
              refine p_toSl (s := 2) (hn := by simp) (h := ?_)
              refine p_ret1 (hp := by rw [Dfa.clsL, Dfa.cls_fun hne hcc]; simp [Function.comp_def]; intro a ha; rw [if_pos ha]; rfl)
            · refine p_condF (h := ?_)
              refine p_skip ?_
              refine p_region fun hf => ?_
              refine p_move (h := ?_)
              refine p_len (ht := Try.underlying26) (h := ?_)
              refine p_assign (h := ?_)
              refine p_end ?_
              refine p_freeze (g1 := g2 + 1) (d1 := 30) (h := ?_)
              refine p_toSl (s := 4) (hn := by simp) (h := ?_)
              refine p_some ?_
              have hcc : d.cnt (K + 1) ≠ d.cnt K := by rw [news_len] at hc69; exact fun e => of_decide_eq_false hc69 (by rw [← e]; rfl)
              have hmono := d.cnt_mono K
              have hnc : (newsAt (d.sig (d.ofs K)) d.n).length = d.cnt (K + 1) := news_len _ _
              refine ⟨⟨K + 1, fun j hj => ?_, eV_, eV_, by refine Eq.trans eV_ ?_; rw [Dfa.ofL, List.map_map]; exact congrArg (V.sl _) (List.map_congr_left fun j hj => by rw [if_pos (by simpa using hj)]; rfl), by refine Eq.trans eV_ ?_; rw [hnc], oB_⟩, ?_⟩
              · rcases Nat.lt_succ_iff_lt_or_eq.1 hj with h | h
                · exact hne j h
                · subst h; exact hcc
              · simp (decide := true) only [upd, f6, V.toN, ↓reduceIte, hnc]; omega

end Go.Proofs.Ytdpljpmohpifbaa
