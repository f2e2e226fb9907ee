/-
  dfa's classes, walked: the classes of states that take the same words.
-/
import Derived.Test.YtdpljpmohpifbaaZf
set_option linter.unusedSimpArgs false
set_option linter.unusedVariables false
namespace Go.Proofs.Ytdpljpmohpifbaa
open Go.RowKit
/-- Three bytes of a number, and those of some numbers. -/
def byt3 (x : Int) : List Int := [IntKind.u8.wrap (x.fdiv (2 ^ min (Int.toNat 16) IntKind.i64.bits)), IntKind.u8.wrap (x.fdiv (2 ^ min (Int.toNat 8) IntKind.i64.bits)), IntKind.u8.wrap x]
def encS (l : List Nat) : List Int := l.flatMap fun x : Nat => byt3 (x : Int)
def encK (l : List Nat) : ByteArray := bstr (encS l)
theorem wrap_u8 (x : Int) : IntKind.u8.wrap x = x % 256 := by
  simp [IntKind.wrap, IntKind.bits, IntKind.signed]
theorem byt3_range (x : Int) : ∀ y ∈ byt3 x, 0 ≤ y ∧ y < 256 := by
  intro y hy
  simp only [byt3, wrap_u8, List.mem_cons, List.not_mem_nil, or_false] at hy
  rcases hy with rfl | rfl | rfl <;> omega
theorem byt3_inj {x y : Nat} (hx : x < 16777216) (hy : y < 16777216) (h : byt3 x = byt3 y) : x = y := by
  simp only [byt3, wrap_u8, List.cons.injEq, and_true] at h
  obtain ⟨h1, h2, h3⟩ := h
  have e1 : ∀ z : Nat, (z : Int).fdiv (2 ^ min (Int.toNat 16) IntKind.i64.bits) = ((z / 65536 : Nat) : Int) := fun z => by
    rw [show (2 : Int) ^ min (Int.toNat 16) IntKind.i64.bits = 65536 from rfl, Int.fdiv_eq_ediv_of_nonneg _ (by omega)]; omega
  have e2 : ∀ z : Nat, (z : Int).fdiv (2 ^ min (Int.toNat 8) IntKind.i64.bits) = ((z / 256 : Nat) : Int) := fun z => by
    rw [show (2 : Int) ^ min (Int.toNat 8) IntKind.i64.bits = 256 from rfl, Int.fdiv_eq_ediv_of_nonneg _ (by omega)]; omega
  rw [e1, e1] at h1
  rw [e2, e2] at h2
  omega
theorem encS_range : ∀ (l : List Nat), ∀ y ∈ encS l, 0 ≤ y ∧ y < 256 := by
  intro l y hy
  obtain ⟨x, _, hx⟩ := List.mem_flatMap.1 hy
  exact byt3_range x y hx
theorem encS_inj : ∀ {l l' : List Nat}, (∀ x ∈ l, x < 16777216) → (∀ x ∈ l', x < 16777216) → encS l = encS l' → l = l'
  | [], [], _, _, _ => rfl
  | [], y :: l', _, _, h => by simp [encS, byt3] at h
  | x :: l, [], _, _, h => by simp [encS, byt3] at h
  | x :: l, y :: l', hx, hy, h => by
    have h1 : byt3 (x : Int) ++ encS l = byt3 (y : Int) ++ encS l' := h
    obtain ⟨h2, h3⟩ := List.append_inj h1 rfl
    rw [byt3_inj (hx x (by simp)) (hy y (by simp)) h2, encS_inj (fun z hz => hx z (by simp [hz])) (fun z hz => hy z (by simp [hz])) h3]
theorem encK_inj {l l' : List Nat} (h : ∀ x ∈ l, x < 16777216) (h' : ∀ x ∈ l', x < 16777216) (he : encK l = encK l') : l = l' := encS_inj h h' (bstr_inj (encS_range l) (encS_range l') he)
theorem encS_take {l : List Nat} {j : Nat} (h : j < l.length) : encS (l.take (j + 1)) = encS (l.take j) ++ byt3 (l[j] : Int) := by
  rw [List.take_add_one, List.getElem?_eq_getElem h]; simp only [encS, Option.toList_some, List.flatMap_append, List.flatMap_cons, List.flatMap_nil, List.append_nil]
theorem encS_len : ∀ (l : List Nat), (encS l).length = 3 * l.length
  | [] => rfl
  | x :: l => by
    have := encS_len l
    simp only [encS, List.flatMap_cons, List.length_append, List.length_cons] at this ⊢
    rw [this]; simp [byt3]; omega
theorem mem_map_inj {κ κ' : Type} {φ : κ → κ'} {l : List κ} {x : κ} (h : ∀ a ∈ l, φ a = φ x → a = x) : φ x ∈ l.map φ ↔ x ∈ l := by
  rw [List.mem_map]
  constructor
  · rintro ⟨a, ha, he⟩; rw [← h a ha he]; exact ha
  · exact fun hx => ⟨_, hx, rfl⟩
section
variable {κ κ' : Type} [DecidableEq κ] [DecidableEq κ']
theorem nm_map {φ : κ → κ'} {x : κ} : ∀ {l : List κ}, (∀ a ∈ l, φ a = φ x → a = x) → x ∈ l → nmOf (φ x) (l.map φ) = nmOf x l := by
  intro l h hx
  rw [nmOf_mem ((mem_map_inj h).2 hx), nmOf_mem hx]
  congr 1
  induction l with
  | nil => simp at hx
  | cons a l ih =>
    rw [List.map_cons, List.idxOf_cons, List.idxOf_cons]
    by_cases ha : a = x
    · subst ha; simp
    · have e1 : (φ a == φ x) = false := by simpa using fun e => ha (h a (by simp) e)
      have e2 : (a == x) = false := by simpa using ha
      have hl : x ∈ l := by rcases List.mem_cons.1 hx with e | e; exact absurd e.symm ha; exact e
      rw [e1, e2, ih (fun b hb => h b (by simp [hb])) hl]
theorem rank_new (f : Nat → κ) {n i : Nat} (hi : i < n) (h : f i ∉ firsts f i) : rank f n i = (firsts f i).length := by
  rw [rank_at f (n := i + 1) (by omega) (by omega), rank, firsts, if_neg h, List.idxOf_append, if_neg h]
  simp
theorem rank_old (f : Nat → κ) {n i : Nat} (hi : i < n) (h : f i ∈ firsts f i) : nmOf (f i) (firsts f i) = (rank f n i : Int) := by
  rw [nmOf_mem h, rank, idxOf_prefix (firsts_prefix f (Nat.le_of_lt hi)) h]
theorem firsts_new (f : Nat → κ) {i : Nat} (h : f i ∉ firsts f i) : firsts f (i + 1) = firsts f i ++ [f i] := by rw [firsts, if_neg h]
theorem firsts_old (f : Nat → κ) {i : Nat} (h : f i ∈ firsts f i) : firsts f (i + 1) = firsts f i := by rw [firsts, if_pos h]
end
namespace Dfa
theorem ofs_small (d : Dfa) (h : d.n ≤ 1024) : ∀ k i, i < d.n → d.ofs k i < 16777216
  | 0, i, _ => by simp only [ofs]; split <;> omega
  | k + 1, i, hi => by
    have := rank_lt (d.sig (d.ofs k)) hi
    have := firsts_le (d.sig (d.ofs k)) d.n
    show rank (d.sig (d.ofs k)) d.n i < _
    omega
theorem sig_small {d : Dfa} (h : d.Ok) (k : Nat) {i : Nat} (hi : i < d.n) : ∀ x ∈ d.sig (d.ofs k) i, x < 16777216 := by
  intro x hx
  rcases List.mem_cons.1 hx with rfl | hx
  · exact ofs_small d h.n1 k i hi
  · obtain ⟨t, ht, rfl⟩ := List.mem_map.1 hx
    have := h.row_in hi t ht
    exact ofs_small d h.n1 k _ (by omega)
theorem sig_key {d : Dfa} (h : d.Ok) (k : Nat) {i : Nat} (hi : i < d.n) : ∀ a ∈ firsts (d.sig (d.ofs k)) i, encK a = encK (d.sig (d.ofs k) i) → a = d.sig (d.ofs k) i := by
  intro a ha he
  obtain ⟨j, hj, rfl⟩ := mem_firsts.1 ha
  exact encK_inj (sig_small h k (by omega)) (sig_small h k hi) he
theorem sig_len {d : Dfa} (f : Nat → Nat) {i : Nat} (hi : i < d.next.length) : (d.sig f i).length = d.next[i].length + 1 := by
  simp [sig, row, List.getD, List.getElem?_eq_getElem hi]
theorem sig_get {d : Dfa} (f : Nat → Nat) {i j : Nat} (hi : i < d.next.length) (hj : j < d.next[i].length) : (d.sig f i)[j + 1]'(by rw [sig_len f hi]; omega) = f d.next[i][j].toNat := by
  simp [sig, row, List.getD, List.getElem?_eq_getElem hi]
theorem cnt_keys (d : Dfa) (K : Nat) : (MP.strs (numV ((firsts (d.sig (d.ofs K)) d.n).map encK))).len = d.cnt (K + 1) := (numF_len _ _).trans (List.length_map ..)
end Dfa

theorem set_next {F : Nat → Int} {i : Nat} {x : Int} (h : F i = x) (j : Nat) : iV (if j < i + 1 then F j else 0) = if j = i then iV x else iV (if j < i then F j else 0) := by
  by_cases hj : j = i
  · subst hj; simp [h]
  · rw [if_neg hj]
    by_cases hlt : j < i
    · rw [if_pos hlt, if_pos (by omega)]
    · rw [if_neg hlt, if_neg (by omega)]
theorem skip_next {F : Nat → Int} {i : Nat} (h : F i = 0) (j : Nat) : iV (if j < i then F j else 0) = iV (if j < i + 1 then F j else 0) := by
  by_cases hj : j = i
  · subst hj; simp [h]
  · by_cases hlt : j < i
    · rw [if_pos hlt, if_pos (by omega)]
    · rw [if_neg hlt, if_neg (by omega)]
theorem Dfa.cls_fun {d : Dfa} {K : Nat} (h : ∀ j, j < K → d.cnt (j + 1) ≠ d.cnt j) (hk : d.cnt (K + 1) = d.cnt K) : d.cls = d.ofs (K + 1) := by
  funext i; rw [Dfa.cls, Dfa.stop_is d h hk]

theorem classes09 (d : Dfa) (h : d.Ok) : FnC Try.prog 49 [dfaV d] (fun r => r = .sl 3 (d.clsL.map iV)) := by
  refine FnC.of (fn := Try.f49) ⟨Try.func49, by kernel_rfl, rfl⟩ Try.ntmps49 (by simp) fun w0 S0 => ?_
  have hn1 := h.n1
  have hacc : (d.acc.length : Int) = d.n := by have := h.acc; omega
  have hn : d.n = d.next.length := rfl
  refine p_seq (p_region fun hf => ?_)
  refine p_box (h := ?_)
  refine p_assign (h := ?_)
  refine p_end ?_
  refine p_seq (p_region fun hf => ?_)
  (first | refine p_fieldPtr (hf := F.fld25_1) (h := ?_) | refine p_fieldRef (hf := F.fld25_1) (h := ?_) | refine p_fieldRow (hf := F.fld25_1) (h := ?_))
  (first | refine p_load (ht := F.leaf22) (h := ?_) | refine p_loadRef (ht := F.leaf22) (h := ?_))
  refine p_len (ht := Try.underlying22) (h := ?_)
  refine p_make (n := d.n) (ht := Try.underlying26) (hi := F.ti3) (hz := rfl) (hzv := rfl) (hro := rfl) (hb := by omega) (h63 := by omega) (h := ?_)
  refine p_assign (h := ?_)
  refine p_end ?_
  refine p_seq ?_
  refine p_seq (p_region fun hf => ?_)
  (first | refine p_fieldPtr (hf := F.fld25_2) (h := ?_) | refine p_fieldRef (hf := F.fld25_2) (h := ?_) | refine p_fieldRow (hf := F.fld25_2) (h := ?_))
  (first | refine p_load (ht := F.leaf23) (h := ?_) | refine p_loadRef (ht := F.leaf23) (h := ?_))
  refine p_len (ht := Try.underlying23) (h := ?_)
  refine p_move (h := ?_)
  refine p_end ?_
  refine TrC.block ?_
  refine p_loop (fun st => ∃ i : Nat, i ≤ d.n ∧ st.env 1 = .ptr (0 + 1) 1 0 ∧ st.env 3 = .row (0 + 1 + 1) 19 d.n ∧ st.env 21 = .sl 4 (d.acc.map .bool) ∧ st.env 22 = iV d.n ∧ st.env 23 = iV i ∧ st.obj (0 + 1) 1 = .cells 25 (dfaL d) ∧ st.obj (0 + 1 + 1) 19 = .row 3 ((List.range d.n).map fun j => iV (if j < i then (d.ofs 0 j : Int) else 0))) (fun st => d.n - (st.env 23).toN) ?_ fun e ob g1 hI => ?_
  · exact ⟨0, by omega, eV_, eV_, eV_, by rw [← hacc]; exact eV_, eV_, oB_, by refine Eq.trans oB_ ?_; rw [replicate_range]; rfl⟩
  · obtain ⟨i, hi, e1, e3, e21, e22, e23, o1, o19⟩ := hI
    dsimp only at e1 e3 e21 e22 e23 o1 o19
    have hE := (⟨e1, e3, e21, e22, e23, o1, o19⟩ : _ ∧ _ ∧ _ ∧ _ ∧ _ ∧ _ ∧ _)
    refine p_seq (p_region fun hf => ?_)
    refine p_num (h := ?_)
    refine p_end ?_
    refine p_seq ?_
    refine p_splitC (s := 24) (ht := fun hc24 => ?_) (hf := fun hc24 => ?_)
    · refine p_condT (h := ?_)
      have hltn : i < d.n := by simpa using hc24
      have hlt1 : i < d.acc.length := by omega
      refine p_skip ?_
      refine p_seq ?_
      refine TrC.block ?_
      refine p_seq (p_region fun hf => ?_)
      refine p_move (h := ?_)
      refine p_idxMap (j := i) (ht := Try.underlying23) (hi := F.ti4) (hij := rfl) (hj := hlt1) (h := ?_)
      (first | refine p_load (ht := F.leaf4) (h := ?_) | refine p_loadRef (ht := F.leaf4) (h := ?_))
      refine p_assign (h := ?_)
      refine p_assign (h := ?_)
      refine p_end ?_
      refine p_seq (p_region fun hf => ?_)
      refine p_move (h := ?_)
      refine p_end ?_
      refine p_splitC (s := 28) (ht := fun hc28 => ?_) (hf := fun hc28 => ?_)
      · refine p_condT (h := ?_)
        refine p_region fun hf => ?_
        refine p_move (h := ?_)
        refine p_move (h := ?_)
        refine p_idxRowN (i) (ht := Try.underlying26) (hi := F.ti3) (hij := rfl) (hlt := hltn) (h := ?_)
        refine p_storeRowF (f' := fun j => iV (if j < i + 1 then (d.ofs 0 j : Int) else 0)) F.ti3 (TI.cells F.ti3) (hlt := hltn) (hf := fun j _ => set_next (F := fun j => (d.ofs 0 j : Int)) (by simp [Dfa.ofs, ← Dfa.ac_is hlt1, hc28]) j) (h := ?_)
        refine p_end ?_
        refine p_region fun hf => ?_
        refine p_add (r := ((i + 1 : Nat) : Int)) (hr := by omega) (hb := by omega) (h := ?_)
        refine p_move (h := ?_)
        refine p_end ?_
        refine p_some ?_
        refine ⟨⟨i + 1, by omega, eV_, eV_, eV_, eV_, eV_, oB_, oB_⟩, ?_⟩
        simp (decide := true) only [upd, e23, V.toN, ↓reduceIte]; omega
      · refine p_condF (h := ?_)
        refine p_skip ?_
        refine p_region fun hf => ?_
        refine p_add (r := ((i + 1 : Nat) : Int)) (hr := by omega) (hb := by omega) (h := ?_)
        refine p_move (h := ?_)
        refine p_end ?_
        refine p_some ?_
        refine ⟨⟨i + 1, by omega, eV_, eV_, eV_, eV_, eV_, oB_, by refine Eq.trans oB_ ?_; exact congrArg (Ob.row _) (List.map_congr_left fun j _ => skip_next (F := fun j => (d.ofs 0 j : Int)) (by simp [Dfa.ofs, ← Dfa.ac_is hlt1, hc28]) j)⟩, ?_⟩
        simp (decide := true) only [upd, e23, V.toN, ↓reduceIte]; omega
    · refine p_condF (h := ?_)
      have hie : i = d.n := by simp at hc24; omega
      refine p_exit ?_
      refine p_seq (p_region fun hf => ?_)
      refine p_assign (h := ?_)
      refine p_end ?_
      refine p_renSlot (s := 3) 60 (h := ?_)
      refine TrC.block ?_
      refine p_loop (fun st => ∃ K r : Nat, (∀ j, j < K → d.cnt (j + 1) ≠ d.cnt j) ∧ st.env 1 = .ptr (0 + 1) 1 0 ∧ st.env 3 = .row r 60 d.n ∧ st.env 6 = iV (d.cnt K) ∧ st.obj (0 + 1) 1 = .cells 25 (dfaL d) ∧ st.obj r 60 = .row 3 ((List.range d.n).map fun j => iV (d.ofs K j : Int))) (fun st => d.n - (st.env 6).toN) ?_ fun e ob g2 hI => ?_
      · exact ⟨0, _, fun j h => by omega, eV_, eV_, eV_, oB_, by refine Eq.trans oB_ ?_; rw [hie]; exact congrArg (Ob.row _) (List.map_congr_left fun j hj => by rw [if_pos (by simpa using hj)])⟩
      · obtain ⟨K, r, hne, f1, f3, f6, p1, p60⟩ := hI
        dsimp only at f1 f3 f6 p1 p60
        have hE := (⟨f1, f3, f6, p1, p60⟩ : _ ∧ _ ∧ _ ∧ _ ∧ _)
        have hcl := d.cnt_le K
        have hcl' := d.cnt_le (K + 1)
        refine TrC.block ?_
        refine p_seq (p_region fun hf => ?_)
        refine p_makeMap (mp := .strs []) (hm := rfl) (h := ?_)
        refine p_assign (h := ?_)
        refine p_end ?_
        refine p_seq (p_region fun hf => ?_)
        refine p_move (h := ?_)
        refine p_len (ht := Try.underlying26) (h := ?_)
        refine p_make (n := d.n) (ht := Try.underlying26) (hi := F.ti3) (hz := rfl) (hzv := rfl) (hro := rfl) (hb := by omega) (h63 := by omega) (h := ?_)
        refine p_assign (h := ?_)
        refine p_end ?_
        refine p_seq ?_
        refine p_seq (p_region fun hf => ?_)
        (first | refine p_fieldPtr (hf := F.fld25_1) (h := ?_) | refine p_fieldRef (hf := F.fld25_1) (h := ?_) | refine p_fieldRow (hf := F.fld25_1) (h := ?_))
        (first | refine p_load (ht := F.leaf22) (h := ?_) | refine p_loadRef (ht := F.leaf22) (h := ?_))
        refine p_len (ht := Try.underlying22) (h := ?_)
        refine p_move (h := ?_)
        refine p_end ?_
        refine TrC.block ?_
        refine p_loop (fun st => ∃ i : Nat, i ≤ d.n ∧ st.env 1 = .ptr (0 + 1) 1 0 ∧ st.env 3 = .row r 60 d.n ∧ st.env 6 = iV (d.cnt K) ∧ st.env 7 = .map (g2 + 1) 33 ∧ st.env 8 = .row (g2 + 1 + 1) 36 d.n ∧ st.env 38 = .sl 26 (d.next.map rowV) ∧ st.env 39 = iV d.n ∧ st.env 40 = iV i ∧ st.obj (0 + 1) 1 = .cells 25 (dfaL d) ∧ st.obj r 60 = .row 3 ((List.range d.n).map fun j => iV (d.ofs K j : Int)) ∧ st.obj (g2 + 1) 33 = .map (.strs (numV ((firsts (d.sig (d.ofs K)) i).map encK))) ∧ st.obj (g2 + 1 + 1) 36 = .row 3 ((List.range d.n).map fun j => iV (if j < i then (rank (d.sig (d.ofs K)) d.n j : Int) else 0))) (fun st => d.n - (st.env 40).toN) ?_ fun e ob g3 hI => ?_
        · exact ⟨0, by omega, eV_, eV_, eV_, eV_, eV_, eV_, eV_, eV_, oB_, oB_, oB_, by refine Eq.trans oB_ ?_; rw [replicate_range]; rfl⟩
        · obtain ⟨i, hi, e1, e3, e6, e7, e8, e38, e39, e40, o1, o60, o33, o36⟩ := hI
          dsimp only at e1 e3 e6 e7 e8 e38 e39 e40 o1 o60 o33 o36
          have hE := (⟨e1, e3, e6, e7, e8, e38, e39, e40, o1, o60, o33, o36⟩ : _ ∧ _ ∧ _ ∧ _ ∧ _ ∧ _ ∧ _ ∧ _ ∧ _ ∧ _ ∧ _ ∧ _)
          refine p_seq (p_region fun hf => ?_)
          refine p_num (h := ?_)
          refine p_end ?_
          refine p_seq ?_
          refine p_splitC (s := 41) (ht := fun hc41 => ?_) (hf := fun hc41 => ?_)
          · refine p_condT (h := ?_)
            have hlt : i < d.n := by simpa using hc41
            have hs1 : encS ((d.sig (d.ofs K) i).take (0 + 1)) = byt3 (d.ofs K i : Int) := by simp [Dfa.sig, encS]
            refine p_skip ?_
            refine p_seq ?_
            refine TrC.block ?_
            refine p_seq (p_region fun hf => ?_)
            refine p_move (h := ?_)
            refine p_idxMap (j := i) (ht := Try.underlying22) (hi := F.ti26) (hij := rfl) (hj := hlt) (h := ?_)
            (first | refine p_load (ht := F.leaf26) (h := ?_) | refine p_loadRef (ht := F.leaf26) (h := ?_))
            refine p_assign (h := ?_)
            refine p_assign (h := ?_)
            refine p_end ?_
            refine p_seq (p_draw F.mixed fun hf => ?_)
            refine p_move (h := ?_)
            refine p_move (h := ?_)
            refine p_idxRowN (i) (ht := Try.underlying26) (hi := F.ti3) (hij := rfl) (hlt := hlt) (h := ?_)
            refine p_loadRowF (ht := F.leaf3) (hi := hlt) (h := ?_)
            refine p_shr (h0 := by decide) (hv := rfl) (h := ?_)
            refine p_conv (hs := Try.underlying3) (ht := Try.underlying5) (h := ?_)
            refine p_move (h := ?_)
            refine p_move (h := ?_)
            refine p_idxRowN (i) (ht := Try.underlying26) (hi := F.ti3) (hij := rfl) (hlt := hlt) (h := ?_)
            refine p_loadRowF (ht := F.leaf3) (hi := hlt) (h := ?_)
            refine p_shr (h0 := by decide) (hv := rfl) (h := ?_)
            refine p_conv (hs := Try.underlying3) (ht := Try.underlying5) (h := ?_)
            refine p_move (h := ?_)
            refine p_move (h := ?_)
            refine p_idxRowN (i) (ht := Try.underlying26) (hi := F.ti3) (hij := rfl) (hlt := hlt) (h := ?_)
            refine p_loadRowF (ht := F.leaf3) (hi := hlt) (h := ?_)
            refine p_conv (hs := Try.underlying3) (ht := Try.underlying5) (h := ?_)
            refine p_buildSlice (ht := Try.underlying86) (hi := F.ti5) (h := ?_)
            refine p_assign (h := ?_)
            refine p_endD ?_
            refine p_seq ?_
            refine p_seq (p_region fun hf => ?_)
            refine p_move (h := ?_)
            refine p_len (ht := Try.underlying26) (h := ?_)
            refine p_move (h := ?_)
            refine p_end ?_
            refine p_renSlot (s := 11) 88 (h := ?_)
            refine TrC.block ?_
            refine p_loop (fun st => ∃ q r4 : Nat, q ≤ d.next[i].length ∧ st.env 1 = .ptr (0 + 1) 1 0 ∧ st.env 3 = .row r 60 d.n ∧ st.env 6 = iV (d.cnt K) ∧ st.env 7 = .map (g2 + 1) 33 ∧ st.env 8 = .row (g2 + 1 + 1) 36 d.n ∧ st.env 38 = .sl 26 (d.next.map rowV) ∧ st.env 39 = iV d.n ∧ st.env 40 = iV i ∧ st.env 9 = iV i ∧ st.env 63 = rowV d.next[i] ∧ st.env 64 = iV d.next[i].length ∧ st.env 65 = iV q ∧ st.env 11 = .row r4 88 (encS ((d.sig (d.ofs K) i).take (q + 1))).length ∧ st.obj (0 + 1) 1 = .cells 25 (dfaL d) ∧ st.obj r 60 = .row 3 ((List.range d.n).map fun j => iV (d.ofs K j : Int)) ∧ st.obj (g2 + 1) 33 = .map (.strs (numV ((firsts (d.sig (d.ofs K)) i).map encK))) ∧ st.obj (g2 + 1 + 1) 36 = .row 3 ((List.range d.n).map fun j => iV (if j < i then (rank (d.sig (d.ofs K)) d.n j : Int) else 0)) ∧ st.obj r4 88 = .row 5 ((encS ((d.sig (d.ofs K) i).take (q + 1))).map (V.int .u8))) (fun st => d.next[i].length - (st.env 65).toN) ?_ fun e ob g4 hI => ?_
            · exact ⟨0, _, by omega, eV_, eV_, eV_, eV_, eV_, eV_, eV_, eV_, eV_, eV_, eV_, eV_, by rw [hs1]; exact eV_, oB_, oB_, oB_, oB_, by rw [hs1]; exact oB_⟩
            · obtain ⟨q, r4, hq, d1, d3, d6, d7, d8, d38, d39, d40, d9, d63, d64, d65, d11, b1, b60, b33, b36, b88⟩ := hI
              dsimp only at d1 d3 d6 d7 d8 d38 d39 d40 d9 d63 d64 d65 d11 b1 b60 b33 b36 b88
              have hE := (⟨d1, d3, d6, d7, d8, d38, d39, d40, d9, d63, d64, d65, d11, b1, b60, b33, b36, b88⟩ : _ ∧ _ ∧ _ ∧ _ ∧ _ ∧ _ ∧ _ ∧ _ ∧ _ ∧ _ ∧ _ ∧ _ ∧ _ ∧ _ ∧ _ ∧ _ ∧ _ ∧ _)
              have hrl4 := (h.rows _ (List.getElem_mem hlt)).1
              have hs4 := h.sym1
              refine p_seq (p_region fun hf => ?_)
              refine p_num (h := ?_)
              refine p_end ?_
              refine p_seq ?_
              refine p_splitC (s := 66) (ht := fun hc66 => ?_) (hf := fun hc66 => ?_)
              · refine p_condT (h := ?_)
                have hlq : q < d.next[i].length := by simpa using hc66
                have hto := (h.rows _ (List.getElem_mem hlt)).2 _ (List.getElem_mem hlq)
                replace hto : 0 ≤ d.next[i][q] ∧ d.next[i][q].toNat < d.n := ⟨hto.1, by omega⟩
                refine p_skip ?_
                refine p_seq ?_
                refine TrC.block ?_
                refine p_seq (p_region fun hf => ?_)
                refine p_idxMap (j := q) (ht := Try.underlying26) (hi := F.ti3) (hij := rfl) (hj := hlq) (h := ?_)
                (first | refine p_load (ht := F.leaf3) (h := ?_) | refine p_loadRef (ht := F.leaf3) (h := ?_))
                refine p_assign (h := ?_)
                refine p_end ?_
                refine p_draw F.mixed fun hf => ?_
                refine p_move (h := ?_)
                refine p_move (h := ?_)
                refine p_move (h := ?_)
                refine p_idxRowN (d.next[i][q].toNat) (ht := Try.underlying26) (hi := F.ti3) (hij := by omega) (hlt := hto.2) (h := ?_)
                refine p_loadRowF (ht := F.leaf3) (hi := hto.2) (h := ?_)
                refine p_shr (h0 := by decide) (hv := rfl) (h := ?_)
                refine p_conv (hs := Try.underlying3) (ht := Try.underlying5) (h := ?_)
                refine p_move (h := ?_)
                refine p_move (h := ?_)
                refine p_idxRowN (d.next[i][q].toNat) (ht := Try.underlying26) (hi := F.ti3) (hij := by omega) (hlt := hto.2) (h := ?_)
                refine p_loadRowF (ht := F.leaf3) (hi := hto.2) (h := ?_)
                refine p_shr (h0 := by decide) (hv := rfl) (h := ?_)
                refine p_conv (hs := Try.underlying3) (ht := Try.underlying5) (h := ?_)
                refine p_move (h := ?_)
                refine p_move (h := ?_)
                refine p_idxRowN (d.next[i][q].toNat) (ht := Try.underlying26) (hi := F.ti3) (hij := by omega) (hlt := hto.2) (h := ?_)
                refine p_loadRowF (ht := F.leaf3) (hi := hto.2) (h := ?_)
                refine p_conv (hs := Try.underlying3) (ht := Try.underlying5) (h := ?_)
                refine p_buildSlice (ht := Try.underlying86) (hi := F.ti5) (h := ?_)
                refine p_append (k := (encS ((d.sig (d.ofs K) i).take (q + 1))).length + 3) (ht := Try.underlying86) (hi := F.ti5) (hnl := by simp) (hy := by exact ⟨.inl oB_, rfl⟩) (hm := by simp) (hlim := by rw [encS_len]; have := List.length_take_le (q + 1) (d.sig (d.ofs K) i); have := Dfa.sig_len (d.ofs K) hlt; omega) (h := ?_)
                refine p_assign (h := ?_)
                refine p_endD ?_
                refine p_region fun hf => ?_
                refine p_add (r := ((q + 1 : Nat) : Int)) (hr := by omega) (hb := by omega) (h := ?_)
                refine p_move (h := ?_)
                refine p_end ?_
                refine p_some ?_
                have hx : encS ((d.sig (d.ofs K) i).take (q + 1 + 1)) = (encS ((d.sig (d.ofs K) i).take (q + 1))) ++ byt3 (d.ofs K d.next[i][q].toNat : Int) := by rw [encS_take (by rw [Dfa.sig_len _ hlt]; omega), Dfa.sig_get _ hlt hlq]
                refine ⟨⟨q + 1, _, hlq, eV_, eV_, eV_, eV_, eV_, eV_, eV_, eV_, eV_, eV_, eV_, eV_, by rw [hx, List.length_append]; exact eV_, oB_, oB_, oB_, oB_, by refine Eq.trans oB_ ?_; rw [hx, List.map_append]; rfl⟩, ?_⟩
                simp (decide := true) only [upd, d65, V.toN, ↓reduceIte]; omega
              · refine p_condF (h := ?_)
                have hqe : q = d.next[i].length := by simp at hc66; omega
                subst hqe
                rw [List.take_of_length_le (by rw [Dfa.sig_len (d.ofs K) hlt]; omega)] at d11 b88
                have hE := (⟨d1, d3, d6, d7, d8, d38, d39, d40, d9, d63, d64, d65, d11, b1, b60, b33, b36, b88⟩ : _ ∧ _ ∧ _ ∧ _ ∧ _ ∧ _ ∧ _ ∧ _ ∧ _ ∧ _ ∧ _ ∧ _ ∧ _ ∧ _ ∧ _ ∧ _ ∧ _ ∧ _)
                refine p_exit ?_
                refine p_seq (p_region fun hf => ?_)
                refine p_move (h := ?_)
                refine p_move (h := ?_)
                refine p_bytesStr (l := encS (d.sig (d.ofs K) i)) (ht := Try.underlying86) (he := Try.underlying5) (ht' := Try.underlying9) (hnl := rfl) (h := ?_)
                refine p_lookOwn (mp := .strs (numV ((firsts (d.sig (d.ofs K)) i).map encK))) (k := .str (encK (d.sig (d.ofs K) i))) (ht := Try.underlying84) (hi := F.ti3) (hk := rfl) (hf := Try.underlying9) (hv := look_num (encK (d.sig (d.ofs K) i)) ((firsts (d.sig (d.ofs K)) i).map encK)) (h := ?_)
                refine p_move (h := ?_)
                refine p_extract (h := ?_)
                refine p_extract (h := ?_)
                refine p_assign (h := ?_)
                refine p_assign (h := ?_)
                refine p_end ?_
                refine p_seq ?_
                refine p_seq (p_region fun hf => ?_)
                refine p_move (h := ?_)
                refine p_not (h := ?_)
                refine p_end ?_
                refine p_splitC (s := 98) (ht := fun hc98 => ?_) (hf := fun hc98 => ?_)
                · refine p_condT (h := ?_)
                  have hkey : (encK (d.sig (d.ofs K) i)) ∉ ((firsts (d.sig (d.ofs K)) i).map encK) := by simpa using hc98
                  have hnew : d.sig (d.ofs K) i ∉ firsts (d.sig (d.ofs K)) i := fun e => hkey ((mem_map_inj (Dfa.sig_key h K hlt)).2 e)
                  refine p_seq (p_region fun hf => ?_)
                  refine p_move (h := ?_)
                  refine p_mapLen (ht := Try.underlying84) (h := ?_)
                  refine p_assign (h := ?_)
                  refine p_end ?_
                  refine p_region fun hf => ?_
                  refine p_move (h := ?_)
                  refine p_move (h := ?_)
                  refine p_bytesStr (l := encS (d.sig (d.ofs K) i)) (ht := Try.underlying86) (he := Try.underlying5) (ht' := Try.underlying9) (hnl := rfl) (h := ?_)
                  refine p_move (h := ?_)
                  refine p_mapPut (mp := .strs (numV ((firsts (d.sig (d.ofs K)) i).map encK))) (k := .str (encK (d.sig (d.ofs K) i))) (v := .int .i64 ((MP.strs (numV ((firsts (d.sig (d.ofs K)) i).map encK))).len : Int)) Try.underlying84 (hk := rfl) (hf := Try.underlying9) (hvf := rfl) (h := ?_)
                  refine p_end ?_
                  refine p_region fun hf => ?_
                  refine p_move (h := ?_)
                  refine p_move (h := ?_)
                  refine p_move (h := ?_)
                  refine p_idxRowN (i) (ht := Try.underlying26) (hi := F.ti3) (hij := rfl) (hlt := hlt) (h := ?_)
                  refine p_storeRowF (f' := fun j => iV (if j < i + 1 then (rank (d.sig (d.ofs K)) d.n j : Int) else 0)) F.ti3 (TI.cells F.ti3) (hlt := hlt) (hf := fun j _ => set_next (F := fun j => (rank (d.sig (d.ofs K)) d.n j : Int)) (by rw [rank_new _ hlt hnew]; simp [MP.len, numF_len]) j) (h := ?_)
                  refine p_end ?_
                  refine p_region fun hf => ?_
                  refine p_add (r := ((i + 1 : Nat) : Int)) (hr := by omega) (hb := by omega) (h := ?_)
                  refine p_move (h := ?_)
                  refine p_end ?_
                  refine p_some ?_
                  have hput := mput_numF (encK (d.sig (d.ofs K) i)) ((firsts (d.sig (d.ofs K)) i).map encK) 0 hkey
                  rw [Nat.zero_add] at hput
                  have hlenk : (MP.strs (numV ((firsts (d.sig (d.ofs K)) i).map encK))).len = ((firsts (d.sig (d.ofs K)) i).map encK).length := numF_len _ _
                  refine ⟨⟨i + 1, hlt, eV_, eV_, eV_, eV_, eV_, eV_, eV_, eV_, oB_, oB_, by refine Eq.trans oB_ ?_; rw [firsts_new _ hnew, List.map_append, hlenk]; exact congrArg (fun z => Ob.map (.strs z)) hput, oB_⟩, ?_⟩
                  simp (decide := true) only [upd, e40, d40, V.toN, ↓reduceIte]; omega
                · refine p_condF (h := ?_)
                  have hold : d.sig (d.ofs K) i ∈ firsts (d.sig (d.ofs K)) i := (mem_map_inj (Dfa.sig_key h K hlt)).1 (by simpa using hc98)
                  refine p_skip ?_
                  refine p_region fun hf => ?_
                  refine p_move (h := ?_)
                  refine p_move (h := ?_)
                  refine p_move (h := ?_)
                  refine p_idxRowN (i) (ht := Try.underlying26) (hi := F.ti3) (hij := rfl) (hlt := hlt) (h := ?_)
                  refine p_storeRowF (f' := fun j => iV (if j < i + 1 then (rank (d.sig (d.ofs K)) d.n j : Int) else 0)) F.ti3 (TI.cells F.ti3) (hlt := hlt) (hf := fun j _ => set_next (F := fun j => (rank (d.sig (d.ofs K)) d.n j : Int)) (by rw [nm_map (Dfa.sig_key h K hlt) hold, rank_old _ hlt hold]) j) (h := ?_)
                  refine p_end ?_
                  refine p_region fun hf => ?_
                  refine p_add (r := ((i + 1 : Nat) : Int)) (hr := by omega) (hb := by omega) (h := ?_)
                  refine p_move (h := ?_)
                  refine p_end ?_
                  refine p_some ?_
                  refine ⟨⟨i + 1, hlt, eV_, eV_, eV_, eV_, eV_, eV_, eV_, eV_, oB_, oB_, by rw [firsts_old _ hold]; exact oB_, oB_⟩, ?_⟩
                  simp (decide := true) only [upd, e40, d40, V.toN, ↓reduceIte]; omega
          · refine p_condF (h := ?_)
            have hie : i = d.n := by simp at hc41; omega
            subst hie
            refine p_exit ?_
            refine p_seq (p_region fun hf => ?_)
            refine p_move (h := ?_)
            refine p_assign (h := ?_)
            refine p_end ?_
            refine p_seq ?_
            refine p_seq (p_region fun hf => ?_)
            refine p_move (h := ?_)
            refine p_mapLen (ht := Try.underlying84) (h := ?_)
            refine p_move (h := ?_)
            refine p_num (h := ?_)
            refine p_end ?_
            refine p_splitC (s := 114) (ht := fun hc114 => ?_) (hf := fun hc114 => ?_)
            · refine p_condT (h := ?_)
              have hcc : d.cnt (K + 1) = d.cnt K := by rw [Dfa.cnt_keys] at hc114; exact Int.ofNat_inj.1 (of_decide_eq_true hc114)
              refine p_seq (p_region fun hf => ?_)
              refine p_move (h := ?_)
              refine p_assign (h := ?_)
              refine p_end ?_
              refine TrC.ret ?_
              refine p_freeze (g1 := g2 + 1 + 1) (d1 := 36) (h := ?_)
              refine p_toSl (s := 2) (hn := by simp) (h := ?_)
              refine p_ret1 (hp := by rw [Dfa.clsL, Dfa.cls_fun hne hcc]; simp [Function.comp_def]; intro a ha; rw [if_pos ha]; rfl)
            · refine p_condF (h := ?_)
              refine p_skip ?_
              refine p_region fun hf => ?_
              refine p_move (h := ?_)
              refine p_mapLen (ht := Try.underlying84) (h := ?_)
              refine p_assign (h := ?_)
              refine p_end ?_
              refine p_renSlot (s := 3) 60 (h := ?_)
              refine p_some ?_
              have hcc : d.cnt (K + 1) ≠ d.cnt K := by rw [Dfa.cnt_keys] at hc114; exact fun e => of_decide_eq_false hc114 (by rw [e])
              have hmono := d.cnt_mono K
              refine ⟨⟨K + 1, _, fun j hj => ?_, eV_, eV_, by refine Eq.trans eV_ ?_; rw [Dfa.cnt_keys], oB_, by refine Eq.trans oB_ ?_; exact congrArg (Ob.row _) (List.map_congr_left fun j hj => by rw [if_pos (by simpa using hj)]; rfl)⟩, ?_⟩
              · rcases Nat.lt_succ_iff_lt_or_eq.1 hj with h | h
                · exact hne j h
                · subst h; exact hcc
              · simp (decide := true) only [upd, f6, V.toN, ↓reduceIte, Dfa.cnt_keys]; omega

end Go.Proofs.Ytdpljpmohpifbaa
