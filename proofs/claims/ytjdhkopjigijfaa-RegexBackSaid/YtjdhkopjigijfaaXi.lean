/-
  The matcher: where a node's words end, all of it.
-/
import Derived.Test.YtjdhkopjigijfaaXh
set_option linter.unusedSimpArgs false
set_option linter.unusedVariables false
set_option maxHeartbeats 8000000
namespace Go.Proofs.Ytjdhkopjigijfaa
open Go.RowKit
attribute [local irreducible] Wk Tr
theorem inV_map (l : List Nat) : l.map inV = (l.map fun j : Nat => (j : Int)).map iV := by rw [List.map_map]; rfl
theorem contains_nat (l : List Nat) (x : Nat) (hl : l.length ≤ 1000000000) : FnC Try.prog 34 [.sl 3 (l.map inV), inV x] (fun r => r = .bool (decide (x ∈ l))) := by
  have h := contains_int (l.map fun j : Nat => (j : Int)) x (by simpa using hl)
  rw [show decide (((x : Nat) : Int) ∈ l.map fun j : Nat => (j : Int)) = decide (x ∈ l) by
    rw [Bool.eq_iff_iff, decide_eq_true_eq, decide_eq_true_eq, List.mem_map]
    constructor
    · rintro ⟨y, hy, h⟩
      have : y = x := by omega
      exact this ▸ hy
    · intro h; exact ⟨x, h, rfl⟩] at h
  rw [inV_map]; exact h
theorem mem_endsL {w : List ByteArray} {r : Rx} {i j : Nat} : j ∈ endsL w r i ↔ j < w.length + 1 ∧ spanB w r i j = true := by simp [endsL]
theorem endsI_eq (w : List ByteArray) (r : Rx) (i : Nat) : (endsI w r i).map iV = (endsL w r i).map inV := by rw [inV_map]; rfl
def seqL (w : List ByteArray) (l : List Rx) (i : Nat) : List Nat := (List.range (w.length + 1)).filter (seqB w l i)
theorem seqI_eq (w : List ByteArray) (l : List Rx) (i : Nat) : (seqI w l i).map iV = (seqL w l i).map inV := by rw [inV_map]; rfl
theorem seqL_nil {w : List ByteArray} {i : Nat} (hi : i ≤ w.length) : seqL w [] i = [i] := filt_one (by omega) fun j => by rw [seqB]
/-- The numbers that are none of some. -/
def noL (no : List Nat) (i n : Nat) : List Nat := (List.range n).filter fun j => decide (i ≤ j) && !decide (j ∈ no)
theorem mem_endsI_nat {w : List ByteArray} {r : Rx} {i j : Nat} : ((j : Nat) : Int) ∈ endsI w r i ↔ j ∈ endsL w r i := by
  rw [mem_endsI, mem_endsL]
  constructor
  · rintro ⟨j', h1, h2, h3⟩
    have : j = j' := by omega
    subst this; exact ⟨h1, h2⟩
  · rintro ⟨h1, h2⟩; exact ⟨j, h1, h2, rfl⟩
theorem noL_start (no : List Nat) (i : Nat) : noL no i i = [] := filt_none fun j hj => by simp; omega
theorem noL_yes {no : List Nat} {i n : Nat} (hn : i ≤ n) (h : n ∉ no) : noL no i (n + 1) = noL no i n ++ [n] := by
  unfold noL; rw [List.range_succ, List.filter_append]; simp [hn, h]
theorem noL_no {no : List Nat} {i n : Nat} (h : n ∈ no) : noL no i (n + 1) = noL no i n := by
  unfold noL; rw [List.range_succ, List.filter_append]; simp [h]
theorem noL_len (no : List Nat) (i n : Nat) : (noL no i n).length ≤ n := Nat.le_trans (List.length_filter_le ..) (by simp)
theorem ends_no2 {w : List ByteArray} {r : Rx} {i : Nat} (h : r.op = 8) (hk : 0 < r.kids.length) : (endsI w r i).map iV = (noL (endsL w r.kids[0] i) i (w.length + 1)).map inV := by
  rw [ends_no h hk, inV_map]
  congr 2
  unfold noL
  refine List.filter_congr fun j hj => ?_
  congr 2
  rw [Bool.eq_iff_iff, decide_eq_true_eq, decide_eq_true_eq, mem_endsI, mem_endsL]
  constructor
  · rintro ⟨j', h1, h2, h3⟩
    have : j = j' := by omega
    subst this; exact ⟨h1, h2⟩
  · rintro ⟨h1, h2⟩; exact ⟨j, h1, h2, rfl⟩
theorem nodup_lt : ∀ (n : Nat) {L : List Nat}, L.Nodup → (∀ j ∈ L, j < n) → L.length ≤ n
  | 0, L, _, hm => by
    cases L with
    | nil => simp
    | cons a l => exact absurd (hm a (List.mem_cons_self ..)) (by omega)
  | n + 1, L, h, hm => by
    by_cases hn : n ∈ L
    · have h1 := nodup_lt n (h.erase n) fun j hj => by
        have h2 := (List.Nodup.mem_erase_iff h).1 hj
        have := hm j h2.2
        omega
      rw [List.length_erase_of_mem hn] at h1
      omega
    · have := nodup_lt n h fun j hj => by
        have h2 := hm j hj
        have h3 : j ≠ n := fun e => hn (e ▸ hj)
        omega
      omega
theorem nodup_len {L : List Nat} {n : Nat} (h : L.Nodup) (hm : ∀ j ∈ L, j ≤ n) : L.length ≤ n + 1 := nodup_lt (n + 1) h fun j hj => Nat.lt_succ_of_le (hm j hj)
/-- What a search has found: a members have been looked at. -/
structure Bfs (w : List ByteArray) (x : Rx) (i a : Nat) (L : List Nat) : Prop where
  nod : L.Nodup
  beg : i ∈ L
  mem : ∀ j ∈ L, j ≤ w.length ∧ starF (hdB w x.kids) w.length w.length i j = true
  cl : ∀ t (ht : t < L.length), t < a → ∀ b, b ≤ w.length → hdB w x.kids L[t] b = true → b ∈ L
theorem Bfs.start {w : List ByteArray} {x : Rx} {i : Nat} (hi : i ≤ w.length) : Bfs w x i 0 [i] :=
  ⟨by simp, by simp, fun j hj => by rw [List.mem_singleton] at hj; subst hj; exact ⟨hi, star_self _⟩, fun t _ h => absurd h (by omega)⟩
theorem Bfs.more {w : List ByteArray} {x : Rx} {i a b c : Nat} {L : List Nat} (h : Bfs w x i a L) (hb : b ∈ L) (hc : c ≤ w.length) (hs : hdB w x.kids b c = true) (hn : c ∉ L) (ha : a ≤ L.length) : Bfs w x i a (L ++ [c]) :=
  ⟨by rw [List.nodup_append]; exact ⟨h.nod, by simp, fun y hy z hz => by rw [List.mem_singleton] at hz; subst hz; intro e; subst e; exact hn hy⟩, by simp [h.beg], fun j hj => by
    rcases List.mem_append.1 hj with hj | hj
    · exact h.mem j hj
    · rw [List.mem_singleton] at hj; subst hj; exact ⟨hc, star_more (h.mem b hb).2 hc hs⟩, fun t ht hta y hy hsy => by
    have ht' : t < L.length := by omega
    rw [List.getElem_append_left ht'] at hsy
    exact List.mem_append_left _ (h.cl t ht' hta y hy hsy)⟩
theorem Bfs.next {w : List ByteArray} {x : Rx} {i a : Nat} {L : List Nat} (h : Bfs w x i a L) (ha : a < L.length) (hk : 0 < x.kids.length) (hall : ∀ c ∈ endsL w x.kids[0] L[a], c ∈ L) : Bfs w x i (a + 1) L :=
  ⟨h.nod, h.beg, h.mem, fun t ht hta b hb hs => by
    rcases Nat.lt_succ_iff_lt_or_eq.1 hta with h1 | rfl
    · exact h.cl t ht h1 b hb hs
    · exact hall b (mem_endsL.2 ⟨by omega, by rw [← hdB_at hk]; exact hs⟩)⟩
theorem Bfs.done {w : List ByteArray} {x : Rx} {i a : Nat} {L : List Nat} (h : Bfs w x i a L) (ha : L.length ≤ a) (hi : i ≤ w.length) (h7 : x.op = 7) : tid (L.map fun j : Nat => (j : Int)) = endsI w x i := by
  refine ends_star hi h7 (List.mem_map.2 ⟨i, h.beg, rfl⟩) (fun y hy => ?_) fun b c hb hc hs => ?_
  · obtain ⟨j, hj, rfl⟩ := List.mem_map.1 hy
    exact ⟨j, (h.mem j hj).1, rfl, (h.mem j hj).2⟩
  · obtain ⟨j, hj, e⟩ := List.mem_map.1 hb
    have : j = b := by omega
    subst this
    obtain ⟨t, ht, rfl⟩ := List.mem_iff_getElem.1 hj
    exact List.mem_map.2 ⟨c, h.cl t ht (by omega) c hc hs, rfl⟩
theorem Bfs.len {w : List ByteArray} {x : Rx} {i a : Nat} {L : List Nat} (h : Bfs w x i a L) : L.length ≤ w.length + 1 := nodup_len h.nod fun j hj => (h.mem j hj).1

theorem ends_hit (w : List ByteArray) (nd : List Rx) (kn : List (List Nat)) (q qm : Nat) (hw : w.length ≤ 100) (n : Nat) (x : Rx) (hx : nd[n]? = some x) (i : Nat) (hi : i ≤ w.length) (M : List ((Nat × Nat) × List Int)) (hM : Good w nd M) (v : List Int) (hg : mget (n, i) M = some v) : FnX Try.prog 35 [.ptr q 19 0, inV n, inV i] [(q, 19), (qm, 17)] [.cells 77 (mcL w nd kn qm), .mv (memV M)] (fun g r o g' => r = slI (endsI w x i) ∧ o q 19 = .cells 77 (mcL w nd kn qm) ∧ ∃ M', Good w nd M' ∧ o qm 17 = .mv (memV M')) := by
  refine FnX.of (fn := Try.f35) ⟨Try.func35, by kernel_rfl, rfl⟩ Try.ntmps35 (by simp) fun w0 S0 l ob0 g0 K hrow hgl hK0 => ?_
  simp only [valsO, List.cons.injEq, and_true] at hrow
  simp only [List.mem_cons, List.not_mem_nil, or_false, forall_eq_or_imp, forall_eq, forall_const] at hgl
  have hE := hrow
  obtain ⟨x2, hx2, hv2⟩ := hM _ (mget_mem hg)
  rw [hx] at hx2; cases hx2
  dsimp only at hv2; subst hv2
  refine p_go fun hf => ?_
  refine p_build (hi := F.ti105.h) (hpl := F.pl105.h) (h := ?_)
  refine p_go fun hf => ?_
  refine p_nilChk (h := ?_)
  refine p_go fun hf => ?_
  refine p_mvLook (kf (n, i)) (v := .tup [slI (endsI w x i), .bool true]) (ht := Try.underlying74) (hi := F.ti79.h) (hk := kV (n, i)) (hkc := kC _) (hlc := memV_ok _) (hv := by rw [memV_get, hg]; rfl) (h := ?_)
  refine p_go ?_
  refine p_retE1 (v := slI (endsI w x i)) rfl eV_ (hK0 _ _ _ (by first | (dsimp only; omega) | omega) (by (try dsimp only); repeat (first | exact hlow | exact LowQ.refl | refine LowQ.or_ ?_ (by assumption) | refine LowQ.up ?_ (by omega) | refine LowQ.at_ ?_ (by simp))) (⟨rfl, oB_, M, hM, oB_⟩))

/-- The places behind alternatives. -/
def altZ (w : List ByteArray) (l : List Rx) (i : Nat) : List Int := l.flatMap fun k => endsI w k i
theorem altZ_len (w : List ByteArray) (l : List Rx) (i : Nat) : (altZ w l i).length ≤ l.length * (w.length + 1) := by
  unfold altZ
  induction l with
  | nil => simp
  | cons a l ih => rw [List.flatMap_cons, List.length_append, List.length_cons, Nat.add_mul]; have := endsI_le w a i; omega
theorem altZ_step {w : List ByteArray} {l : List Rx} {i t : Nat} (h : t < l.length) : altZ w (l.take (t + 1)) i = altZ w (l.take t) i ++ endsI w l[t] i := by
  unfold altZ; rw [List.take_add_one, List.getElem?_eq_getElem h, List.flatMap_append]; simp
theorem endsI_len (w : List ByteArray) (r : Rx) (i : Nat) : (endsI w r i).length = (endsL w r i).length := by simp [endsI]

theorem any_memN (l : List Nat) (x : Nat) : (l.any fun y => decide (x = y)) = decide (x ∈ l) := by
  rw [Bool.eq_iff_iff, List.any_eq_true, decide_eq_true_eq]
  constructor
  · rintro ⟨y, hy, h⟩; simp at h; exact h ▸ hy
  · intro h; exact ⟨x, h, by simp⟩
theorem dec_in (x y : Nat) : decide ((x : Int) = (y : Int)) = decide (x = y) := by rw [Bool.eq_iff_iff, decide_eq_true_eq, decide_eq_true_eq]; omega
theorem index_rw (c1 : Nat) (lz : List Nat) (x : Nat) (hl : lz.length ≤ 1000000000) : FnX Try.prog 60 [.row c1 900 lz.length, inV x] [(c1, 900)] [.row 3 (lz.map inV)] (fun g r o g' => r = iV (idx (fun y => decide (x = y)) lz) ∧ o c1 900 = .row 3 (lz.map inV)) := by
  refine FnX.of (fn := Try.f60) ⟨Try.func60, by kernel_rfl, rfl⟩ Try.ntmps60 (by simp) fun w0 S0 l ob0 g0 K hrow hgl hK0 => ?_
  simp only [valsO, List.cons.injEq, and_true] at hrow
  simp only [List.mem_cons, List.not_mem_nil, or_false, forall_eq_or_imp, forall_eq, forall_const] at hgl
  have hE := hrow
  refine p_go ?_
  refine p_loopK [0, 1, 7] [] (fun st => ∃ i : Nat, (i ≤ lz.length) ∧ (∀ j (hj : j < lz.length), j < i → decide (x = lz[j]) = false) ∧ (g0 ≤ st.gen) ∧ (LowQ g0 [(c1, 900)] ob0 st.obj) ∧ st.env 8 = iV i ∧ st.obj c1 900 = .row 3 (lz.map inV)) (fun st => lz.length - (st.env 8).toN) ?_ fun e ob g1 hK hO hI => ?_
  · exact ⟨0, by omega, fun _ _ h => by omega, by (try dsimp only); omega, (by (try dsimp only); repeat (first | exact hlow | exact LowQ.refl | refine LowQ.or_ ?_ (by assumption) | refine LowQ.up ?_ (by omega) | refine LowQ.at_ ?_ (by simp))), eV_, oB_⟩
  · obtain ⟨i, hi, hn, hgen1, hlow, e8, hrw⟩ := hI
    dsimp only at e8 hrw
    simp only [valsE, List.cons.injEq, and_true] at hK
    have hE := (⟨hK, e8, hrw⟩ : _ ∧ _ ∧ _)
    dsimp only at hgen1 hlow
    refine p_go ?_
    refine p_splitC (s := 9) (ht := fun hc9 => ?_) (hf := fun hc9 => ?_)
    · have hlt : i < lz.length := by simpa using hc9
      refine p_go fun hf => ?_
      refine p_idxRowN (i) (ht := Try.underlying79) (hi := F.ti3.h) (hij := rfl) (hlt := by simpa using hlt) (h := ?_)
      refine p_loadRowM (ht := F.leaf3.h) (hj := by simpa using hlt) (h := ?_)
      refine p_go ?_
      refine p_splitC (s := 16) (ht := fun hc16 => ?_) (hf := fun hc16 => ?_)
      · rw [dec_in] at hc16
        refine p_go ?_
        refine p_retE1 (v := iV i) rfl eV_ (hK0 _ _ _ (by first | (dsimp only; omega) | omega) (by (try dsimp only); repeat (first | exact hlow | exact LowQ.refl | refine LowQ.or_ ?_ (by assumption) | refine LowQ.up ?_ (by omega) | refine LowQ.at_ ?_ (by simp))) (⟨by rw [idx_hit (p := fun y => decide (x = y)) hlt hc16 hn], oB_⟩))
      · rw [dec_in] at hc16
        refine p_go fun hf => ?_
        refine p_add (r := ((i + 1 : Nat) : Int)) (hr := (by first | omega | (simp only [decide_eq_true_eq, decide_eq_false_iff_not, Bool.or_eq_false_iff, Bool.and_eq_true, Bool.not_eq_true', Bool.not_eq_false'] at *; omega))) (hb := (by first | omega | (simp only [decide_eq_true_eq, decide_eq_false_iff_not, Bool.or_eq_false_iff, Bool.and_eq_true, Bool.not_eq_true', Bool.not_eq_false'] at *; omega))) (h := ?_)
        refine p_go ?_
        refine p_some ?_
        refine ⟨⟨(by simp (decide := true) only [valsE, evE, upd, cv, args0, argsFrom, List.length_map, ↓reduceIte, hE] <;> rfl), (by simp (decide := true) only [valsO, updO, upd, true_and, and_true, false_and, and_false, ↓reduceIte, hE] <;> rfl)⟩, ⟨i + 1, hlt, ext_no (p := fun y => decide (x = y)) hc16 hn, by (try dsimp only); omega, (by (try dsimp only); repeat (first | exact hlow | exact LowQ.refl | refine LowQ.or_ ?_ (by assumption) | refine LowQ.up ?_ (by omega) | refine LowQ.at_ ?_ (by simp))), eV_, oB_⟩, ?_⟩
        simp (decide := true) only [upd, e8, V.toN, ↓reduceIte]; omega
    · have hge : ¬ i < lz.length := by simpa using hc9
      refine p_go ?_
      refine p_retE1 (v := iV (-1)) rfl eV_ (hK0 _ _ _ (by first | (dsimp only; omega) | omega) (by (try dsimp only); repeat (first | exact hlow | exact LowQ.refl | refine LowQ.or_ ?_ (by assumption) | refine LowQ.up ?_ (by omega) | refine LowQ.at_ ?_ (by simp))) (⟨by rw [idx_miss (p := fun y => decide (x = y)) fun j hj => hn j hj (by omega)], oB_⟩))

theorem contains_rw (c1 : Nat) (lz : List Nat) (x : Nat) (hl : lz.length ≤ 1000000000) : FnX Try.prog 34 [.row c1 900 lz.length, inV x] [(c1, 900)] [.row 3 (lz.map inV)] (fun g r o g' => r = .bool (decide (x ∈ lz)) ∧ o c1 900 = .row 3 (lz.map inV)) := by
  refine FnX.of (fn := Try.f34) ⟨Try.func34, by kernel_rfl, rfl⟩ Try.ntmps34 (by simp) fun w0 S0 l ob0 g0 K hrow hgl hK0 => ?_
  simp only [valsO, List.cons.injEq, and_true] at hrow
  simp only [List.mem_cons, List.not_mem_nil, or_false, forall_eq_or_imp, forall_eq, forall_const] at hgl
  have hE := hrow
  refine p_go fun hf => ?_
  refine p_callX ([]) (hf := index_rw c1 lz x hl) (hg := by simp; omega) (hos := by simp) (h := fun r o9 h9 hg9 hlw9 hos9 hR9 => ?_)
  obtain ⟨rfl, hrw⟩ := hR9
  have hlow : LowQ g0 [(c1, 900)] ob0 o9 := LowQ.trans (by (try dsimp only); repeat (first | exact hlow | exact LowQ.refl | refine LowQ.or_ ?_ (by assumption) | refine LowQ.up ?_ (by omega) | refine LowQ.at_ ?_ (by simp))) hlw9 (by first | (dsimp only; omega) | omega) (fun k hk => .inl hk)
  have hE := hrw
  refine p_go ?_
  refine p_retE1 (v := .bool (decide (0 ≤ idx (fun y => decide (x = y)) lz))) rfl eV_ (hK0 _ _ _ (by first | (dsimp only; omega) | omega) (by (try dsimp only); repeat (first | exact hlow | exact LowQ.refl | refine LowQ.or_ ?_ (by assumption) | refine LowQ.up ?_ (by omega) | refine LowQ.at_ ?_ (by simp))) (⟨by rw [idx_nonneg, any_memN], oB_⟩))

theorem ends_miss (w : List ByteArray) (nd : List Rx) (kn : List (List Nat)) (q qm : Nat) (hw : w.length ≤ 100) (n : Nat) (x : Rx) (hx : nd[n]? = some x) (i : Nat) (hi : i ≤ w.length) (M : List ((Nat × Nat) × List Int)) (hM : Good w nd M) (hg : mget (n, i) M = none) (hn : n < kn.length) (hnd : n < nd.length) (hxe : nd[n] = x) (hks : kn[n].length = x.kids.length) (hkl : x.kids.length ≤ 1000) (hone : x.op = 7 ∨ x.op = 8 → 0 < x.kids.length) (hrec : ∀ t (ht : t < x.kids.length) (ht' : t < kn[n].length), ∀ j, j ≤ w.length → EndC w nd kn q qm kn[n][t] x.kids[t] j) : FnX Try.prog 35 [.ptr q 19 0, inV n, inV i] [(q, 19), (qm, 17)] [.cells 77 (mcL w nd kn qm), .mv (memV M)] (fun g r o g' => r = slI (endsI w x i) ∧ o q 19 = .cells 77 (mcL w nd kn qm) ∧ ∃ M', Good w nd M' ∧ o qm 17 = .mv (memV M')) := by
  refine FnX.of (fn := Try.f35) ⟨Try.func35, by kernel_rfl, rfl⟩ Try.ntmps35 (by simp) fun w0 S0 l ob0 g0 K hrow hgl hK0 => ?_
  simp only [valsO, List.cons.injEq, and_true] at hrow
  simp only [List.mem_cons, List.not_mem_nil, or_false, forall_eq_or_imp, forall_eq, forall_const] at hgl
  have hE := hrow
  refine p_goJ fun hf => ?_
  refine p_build (hi := F.ti105.h) (hpl := F.pl105.h) (h := ?_)
  refine p_goJ ?_
  refine p_seq ?_
  refine p_goJ fun hf => ?_
  refine p_nilChk (h := ?_)
  refine p_goJ fun hf => ?_
  refine p_mvLook (kf (n, i)) (v := .tup [.nil, .bool false]) (ht := Try.underlying74) (hi := F.ti79.h) (hk := kV (n, i)) (hkc := kC _) (hlc := memV_ok _) (hv := by rw [memV_get, hg]; rfl) (h := ?_)
  refine p_goJ fun hf => ?_
  refine p_nilChk (h := ?_)
  refine p_goJ fun hf => ?_
  refine p_idxMap (j := n) (ht := Try.underlying23) (hi := F.ti25.h) (hij := rfl) (hj := hnd) (h := ?_)
  rw [hxe, rxV_cells]
  refine p_goJ ?_
  refine p_joinK [0, 7] [(g0 + 1 + 1, 7)] (fun st => ∃ (M2 : List ((Nat × Nat) × List Int)), (Good w nd M2) ∧ (g0 + 1 + 1 ≤ st.gen) ∧ (LowQ g0 [(q, 19), (qm, 17)] ob0 st.obj) ∧ st.env 10 = slI (endsI w x i) ∧ st.obj q 19 = .cells 77 (mcL w nd kn qm) ∧ st.obj qm 17 = .mv (memV M2)) ?_ fun e ob gS2 hK hO hI => ?_
  ·
    refine p_goJ ?_
    refine p_joinK [0, 1, 2, 7, 10, 11, 43] [(g0 + 1 + 1, 7), (g0 + 1 + 1 + 1 + 1 + 1 + 1, 11)] (fun st => (LowQ g0 [(q, 19), (qm, 17)] ob0 st.obj) ∧ (g0 + 1 + 1 + 1 + 1 + 1 + 1 ≤ st.gen) ∧ st.env 44 = .bool (decide (x.op = 1 ∨ x.op = 2)) ∧ st.obj q 19 = .cells 77 (mcL w nd kn qm) ∧ st.obj qm 17 = .mv (memV M)) ?_ fun e ob gS3 hK hO hI => ?_
    ·
      refine p_goJ ?_
      refine p_splitC (s := 44) (ht := fun hc44 => ?_) (hf := fun hc44 => ?_)
      · have hop : x.op = 1 ∨ x.op = 2 := by simp at hc44; omega
        refine p_goJ ?_
        refine p_some ?_
        refine ⟨⟨(by simp (decide := true) only [valsE, evE, upd, cv, args0, argsFrom, List.length_map, ↓reduceIte, hE] <;> rfl), (by simp (decide := true) only [valsO, updO, upd, true_and, and_true, false_and, and_false, ↓reduceIte, hE] <;> rfl)⟩, (by (try dsimp only); repeat (first | exact hlow | exact LowQ.refl | refine LowQ.or_ ?_ (by assumption) | refine LowQ.up ?_ (by omega) | refine LowQ.at_ ?_ (by simp))), by (try dsimp only); omega, by rw [show decide (x.op = 1 ∨ x.op = 2) = true from (by have h : x.op = 1 := (by simpa using hc44); simp [h])]; exact eV_, oB_, oB_⟩
      · have hop1 : ¬ x.op = 1 := by simp at hc44; omega
        refine p_goJ ?_
        refine p_some ?_
        refine ⟨⟨(by simp (decide := true) only [valsE, evE, upd, cv, args0, argsFrom, List.length_map, ↓reduceIte, hE] <;> rfl), (by simp (decide := true) only [valsO, updO, upd, true_and, and_true, false_and, and_false, ↓reduceIte, hE] <;> rfl)⟩, (by (try dsimp only); repeat (first | exact hlow | exact LowQ.refl | refine LowQ.or_ ?_ (by assumption) | refine LowQ.up ?_ (by omega) | refine LowQ.at_ ?_ (by simp))), by (try dsimp only); omega, by rw [show decide (x.op = 1 ∨ x.op = 2) = decide (x.op = 2) from (by have h : ¬ x.op = 1 := (by simpa using hc44); simp [h])]; exact eV_, oB_, oB_⟩
    · obtain ⟨hlow, hgen3, e44, hcl, hmv⟩ := hI
      dsimp only at e44 hcl hmv
      simp only [valsE, List.cons.injEq, and_true] at hK
      simp only [valsO, List.cons.injEq, and_true] at hO
      have hE := (⟨hK, hO, e44, hcl, hmv⟩ : _ ∧ _ ∧ _ ∧ _ ∧ _)
      dsimp only at hlow hgen3
      refine p_splitC (s := 44) (ht := fun hc44 => ?_) (hf := fun hc44 => ?_)
      · have hop : x.op = 1 ∨ x.op = 2 := by simp at hc44; omega
        refine p_goJ fun hf => ?_
        refine p_nilChk (h := ?_)
        refine p_goJ fun hf => ?_
        refine p_split (s := 54) (ht := fun hb54 => ?_) (hf := fun hb54 => ?_)
        · have hlt : i < w.length := by simpa using hb54
          refine p_goJ fun hf => ?_
          refine p_split (s := 58) (ht := fun hb58 => ?_) (hf := fun hb58 => ?_)
          · have h2 : x.op = 2 := by simpa using hb58
            have hE10 := ends_name hlt (.inr h2)
            refine p_goJ fun hf => ?_
            refine p_add (r := ((i + 1 : Nat) : Int)) (hr := (by first | omega | (simp only [decide_eq_true_eq, decide_eq_false_iff_not, Bool.or_eq_false_iff, Bool.and_eq_true, Bool.not_eq_true', Bool.not_eq_false'] at *; omega))) (hb := (by first | omega | (simp only [decide_eq_true_eq, decide_eq_false_iff_not, Bool.or_eq_false_iff, Bool.and_eq_true, Bool.not_eq_true', Bool.not_eq_false'] at *; omega))) (h := ?_)
            refine p_buildSlice (ht := Try.underlying79) (hi := F.ti3.h) (h := ?_)
            refine p_goJ ?_
            refine p_frzS (s := 10) eV_ oB_ (by first | rfl | simp) ?_
            refine p_some ?_
            refine ⟨⟨(by simp (decide := true) only [valsE, evE, upd, cv, args0, argsFrom, List.length_map, ↓reduceIte, hE] <;> rfl), (by simp (decide := true) only [valsO, updO, upd, true_and, and_true, false_and, and_false, ↓reduceIte, hE] <;> rfl)⟩, M, hM, by (try dsimp only); omega, (by (try dsimp only); repeat (first | exact hlow | exact LowQ.refl | refine LowQ.or_ ?_ (by assumption) | refine LowQ.up ?_ (by omega) | refine LowQ.at_ ?_ (by simp))), by rw [hE10]; exact eV_, oB_, oB_⟩
          · have h1 : x.op = 1 := by simp at hb58; omega
            refine p_goJ fun hf => ?_
            refine p_nilChk (h := ?_)
            refine p_goJ fun hf => ?_
            refine p_idxMap (j := i) (ht := Try.underlying34) (hi := F.ti9.h) (hij := rfl) (hj := hlt) (h := ?_)
            refine p_goJ fun hf => ?_
            refine p_strOp (h := ?_)
            refine p_goJ ?_
            refine p_splitC (s := 70) (ht := fun hc70 => ?_) (hf := fun hc70 => ?_)
            · have hE10 := ends_name hlt (.inl ⟨h1, by rw [List.getElem?_eq_getElem hlt]; simpa using hc70⟩)
              refine p_goJ fun hf => ?_
              refine p_add (r := ((i + 1 : Nat) : Int)) (hr := (by first | omega | (simp only [decide_eq_true_eq, decide_eq_false_iff_not, Bool.or_eq_false_iff, Bool.and_eq_true, Bool.not_eq_true', Bool.not_eq_false'] at *; omega))) (hb := (by first | omega | (simp only [decide_eq_true_eq, decide_eq_false_iff_not, Bool.or_eq_false_iff, Bool.and_eq_true, Bool.not_eq_true', Bool.not_eq_false'] at *; omega))) (h := ?_)
              refine p_buildSlice (ht := Try.underlying79) (hi := F.ti3.h) (h := ?_)
              refine p_goJ ?_
              refine p_frzS (s := 10) eV_ oB_ (by first | rfl | simp) ?_
              refine p_some ?_
              refine ⟨⟨(by simp (decide := true) only [valsE, evE, upd, cv, args0, argsFrom, List.length_map, ↓reduceIte, hE] <;> rfl), (by simp (decide := true) only [valsO, updO, upd, true_and, and_true, false_and, and_false, ↓reduceIte, hE] <;> rfl)⟩, M, hM, by (try dsimp only); omega, (by (try dsimp only); repeat (first | exact hlow | exact LowQ.refl | refine LowQ.or_ ?_ (by assumption) | refine LowQ.up ?_ (by omega) | refine LowQ.at_ ?_ (by simp))), by rw [hE10]; exact eV_, oB_, oB_⟩
            · have hE10 : endsI w x i = [] := ends_not (.inl ⟨h1, by rw [List.getElem?_eq_getElem hlt]; simpa using hc70⟩)
              refine p_goJ ?_
              refine p_nilSl (s := 10) (t := 3) (h := ?_)
              refine p_some ?_
              refine ⟨⟨(by simp (decide := true) only [valsE, evE, upd, cv, args0, argsFrom, List.length_map, ↓reduceIte, hE] <;> rfl), (by simp (decide := true) only [valsO, updO, upd, true_and, and_true, false_and, and_false, ↓reduceIte, hE] <;> rfl)⟩, M, hM, by (try dsimp only); omega, (by (try dsimp only); repeat (first | exact hlow | exact LowQ.refl | refine LowQ.or_ ?_ (by assumption) | refine LowQ.up ?_ (by omega) | refine LowQ.at_ ?_ (by simp))), by rw [hE10]; exact eV_, oB_, oB_⟩
        · have hge : ¬ i < w.length := by simpa using hb54
          have hE10 : endsI w x i = [] := ends_not (hop.elim (fun h => .inl ⟨h, by rw [List.getElem?_eq_none (by omega)]; simp⟩) fun h => .inr (.inl ⟨h, hge⟩))
          refine p_goJ ?_
          refine p_nilSl (s := 10) (t := 3) (h := ?_)
          refine p_some ?_
          refine ⟨⟨(by simp (decide := true) only [valsE, evE, upd, cv, args0, argsFrom, List.length_map, ↓reduceIte, hE] <;> rfl), (by simp (decide := true) only [valsO, updO, upd, true_and, and_true, false_and, and_false, ↓reduceIte, hE] <;> rfl)⟩, M, hM, by (try dsimp only); omega, (by (try dsimp only); repeat (first | exact hlow | exact LowQ.refl | refine LowQ.or_ ?_ (by assumption) | refine LowQ.up ?_ (by omega) | refine LowQ.at_ ?_ (by simp))), by rw [hE10]; exact eV_, oB_, oB_⟩
      · have hop1 : ¬ x.op = 1 := by simp at hc44; omega
        refine p_goJ ?_
        refine p_splitC (s := 74) (ht := fun hc74 => ?_) (hf := fun hc74 => ?_)
        · have hE10 := ends_empty hi (show x.op = 3 by simpa using hc74)
          refine p_goJ fun hf => ?_
          refine p_buildSlice (ht := Try.underlying79) (hi := F.ti3.h) (h := ?_)
          refine p_goJ ?_
          refine p_frzS (s := 10) eV_ oB_ (by first | rfl | simp) ?_
          refine p_some ?_
          refine ⟨⟨(by simp (decide := true) only [valsE, evE, upd, cv, args0, argsFrom, List.length_map, ↓reduceIte, hE] <;> rfl), (by simp (decide := true) only [valsO, updO, upd, true_and, and_true, false_and, and_false, ↓reduceIte, hE] <;> rfl)⟩, M, hM, by (try dsimp only); omega, (by (try dsimp only); repeat (first | exact hlow | exact LowQ.refl | refine LowQ.or_ ?_ (by assumption) | refine LowQ.up ?_ (by omega) | refine LowQ.at_ ?_ (by simp))), by rw [hE10]; exact eV_, oB_, oB_⟩
        · have h3 : ¬ x.op = 3 := by simpa using hc74
          have hop2 : ¬ x.op = 2 := by simp at hc44; omega
          refine p_goJ ?_
          refine p_splitC (s := 78) (ht := fun hc78 => ?_) (hf := fun hc78 => ?_)
          · have h5 : x.op = 5 := by simpa using hc78
            have hE10 := ends_seq (w := w) (i := i) h5
            refine p_goJ fun hf => ?_
            refine p_buildSlice (ht := Try.underlying79) (hi := F.ti3.h) (h := ?_)
            refine p_goJ fun hf => ?_
            refine p_nilChk (h := ?_)
            refine p_goJ fun hf => ?_
            refine p_idxMap (j := n) (ht := Try.underlying75) (hi := F.ti79.h) (hij := rfl) (hj := hn) (h := ?_)
            refine p_goJ ?_
            refine p_frzS (s := 10) eV_ oB_ (by first | rfl | simp) ?_
            refine p_loopK [0, 7, 88, 89] [(g0 + 1 + 1, 7)] (fun st => ∃ (t : Nat) (M1 : List ((Nat × Nat) × List Int)), (t ≤ x.kids.length) ∧ (Good w nd M1) ∧ (g0 + 1 + 1 + 1 + 1 + 1 + 1 ≤ st.gen) ∧ (LowQ g0 [(q, 19), (qm, 17)] ob0 st.obj) ∧ st.env 10 = .sl 3 ((seqL w (x.kids.take t) i).map inV) ∧ st.env 90 = inV t ∧ st.obj q 19 = .cells 77 (mcL w nd kn qm) ∧ st.obj qm 17 = .mv (memV M1)) (fun st => x.kids.length - (st.env 90).toN) ?_ fun e ob g1 hK hO hI => ?_
            · exact ⟨0, M, by omega, hM, by (try dsimp only); omega, (by (try dsimp only); repeat (first | exact hlow | exact LowQ.refl | refine LowQ.or_ ?_ (by assumption) | refine LowQ.up ?_ (by omega) | refine LowQ.at_ ?_ (by simp))), by rw [List.take_zero, seqL_nil hi]; exact eV_, eV_, oB_, oB_⟩
            · obtain ⟨t, M1, ht, hM1, hgen1, hlow, e10, e90, hcl, hmv⟩ := hI
              dsimp only at e10 e90 hcl hmv
              simp only [valsE, List.cons.injEq, and_true] at hK
              simp only [valsO, List.cons.injEq, and_true] at hO
              have hE := (⟨hK, hO, e10, e90, hcl, hmv⟩ : _ ∧ _ ∧ _ ∧ _ ∧ _ ∧ _)
              dsimp only at hgen1 hlow
              refine p_goJ ?_
              refine p_seq ?_
              refine p_splitC (s := 91) (ht := fun hc91 => ?_) (hf := fun hc91 => ?_)
              · have hlt : t < x.kids.length := by simpa [hks] using hc91
                have hlt' : t < kn[n].length := by omega
                refine p_goJ ?_
                refine p_seq ?_
                refine p_goJ fun hf => ?_
                refine p_idxMap (j := t) (ht := Try.underlying79) (hi := F.ti3.h) (hij := rfl) (hj := hlt') (h := ?_)
                refine p_goJ fun hf => ?_
                refine p_callX ([(g0 + 1 + 1, 7)]) (hf := behind_gen w nd kn q qm kn[n][t] x.kids[t] hw (seqL w (x.kids.take t) i) (Nat.le_trans (List.length_filter_le ..) (by simp; omega)) (fun j hj => hrec t hlt hlt' j (by have := (List.mem_filter.1 hj).1; simp at this; omega)) M1 hM1) (hg := by simp; omega) (hos := by simp <;> omega) (h := fun r o5 h5 hg5 hlw5 hos5 hR5 => ?_)
                obtain ⟨rfl, hcl5, M5, hM5, hmv5⟩ := hR5
                have hlow : LowQ g0 [(q, 19), (qm, 17)] ob0 o5 := LowQ.trans (by (try dsimp only); repeat (first | exact hlow | exact LowQ.refl | refine LowQ.or_ ?_ (by assumption) | refine LowQ.up ?_ (by omega) | refine LowQ.at_ ?_ (by simp))) hlw5 (by first | (dsimp only; omega) | omega) (fun k hk => .inl hk)
                simp only [valsO, List.cons.injEq, and_true] at hos5
                have hE := (⟨hK, hos5, hcl5, hmv5, e10, e90⟩ : _ ∧ _ ∧ _ ∧ _ ∧ _ ∧ _)
                refine p_goJ fun hf => ?_
                refine p_add (r := ((t + 1 : Nat) : Int)) (hr := (by first | omega | (simp only [decide_eq_true_eq, decide_eq_false_iff_not, Bool.or_eq_false_iff, Bool.and_eq_true, Bool.not_eq_true', Bool.not_eq_false'] at *; omega))) (hb := (by first | omega | (simp only [decide_eq_true_eq, decide_eq_false_iff_not, Bool.or_eq_false_iff, Bool.and_eq_true, Bool.not_eq_true', Bool.not_eq_false'] at *; omega))) (h := ?_)
                refine p_goJ ?_
                refine p_some ?_
                have hz5 : (seqL w (x.kids.take (t + 1)) i).map inV = (tid (behZ w x.kids[t] (seqL w (x.kids.take t) i))).map iV := by rw [take_step hlt, ← seqI_eq, ← seq_step hi]; rfl
                refine ⟨⟨(by simp (decide := true) only [valsE, evE, upd, cv, args0, argsFrom, List.length_map, ↓reduceIte, hE] <;> rfl), (by simp (decide := true) only [valsO, updO, upd, true_and, and_true, false_and, and_false, ↓reduceIte, hE] <;> rfl)⟩, ⟨t + 1, M5, hlt, hM5, by (try dsimp only); omega, (by (try dsimp only); repeat (first | exact hlow | exact LowQ.refl | refine LowQ.or_ ?_ (by assumption) | refine LowQ.up ?_ (by omega) | refine LowQ.at_ ?_ (by simp))), by rw [hz5]; exact eV_, eV_, oB_, oB_⟩, ?_⟩
                simp (decide := true) only [upd, e90, V.toN, ↓reduceIte]; omega
              · have hge : ¬ t < x.kids.length := by simpa [hks] using hc91
                have htk : x.kids.take t = x.kids := List.take_of_length_le (by omega)
                rw [htk] at e10
                have hE := (⟨hK, hO, e10, e90, hcl, hmv⟩ : _ ∧ _ ∧ _ ∧ _ ∧ _ ∧ _)
                refine p_goJ ?_
                refine p_some ?_
                refine ⟨⟨(by simp (decide := true) only [valsE, evE, upd, cv, args0, argsFrom, List.length_map, ↓reduceIte, hE] <;> rfl), (by simp (decide := true) only [valsO, updO, upd, true_and, and_true, false_and, and_false, ↓reduceIte, hE] <;> rfl)⟩, M1, hM1, by (try dsimp only); omega, (by (try dsimp only); repeat (first | exact hlow | exact LowQ.refl | refine LowQ.or_ ?_ (by assumption) | refine LowQ.up ?_ (by omega) | refine LowQ.at_ ?_ (by simp))), by rw [hE10, slI, seqI_eq]; exact eV_, oB_, oB_⟩
          · have h5 : ¬ x.op = 5 := by simpa using hc78
            refine p_goJ ?_
            refine p_splitC (s := 99) (ht := fun hc99 => ?_) (hf := fun hc99 => ?_)
            · have h6 : x.op = 6 := by simpa using hc99
              have hE10 := (ends_alt (w := w) (i := i) h6).symm
              refine p_goJ ?_
              refine p_seq ?_
              refine p_goJ fun hf => ?_
              refine p_nilChk (h := ?_)
              refine p_goJ fun hf => ?_
              refine p_idxMap (j := n) (ht := Try.underlying75) (hi := F.ti79.h) (hij := rfl) (hj := hn) (h := ?_)
              refine p_goJ ?_
              refine p_fresh fun hf => ?_
              refine p_nilSlot (s := 10) (el := 3) 900 (h := ?_)
              refine p_loopK [0, 2, 7, 107, 108] [(g0 + 1 + 1, 7)] (fun st => ∃ (t c1 : Nat) (M1 : List ((Nat × Nat) × List Int)), (t ≤ x.kids.length) ∧ (Good w nd M1) ∧ (g0 + 1 + 1 < c1) ∧ (c1 ≤ st.gen) ∧ (g0 + 1 + 1 + 1 + 1 + 1 + 1 ≤ st.gen) ∧ (LowQ g0 [(q, 19), (qm, 17)] ob0 st.obj) ∧ st.env 10 = .row c1 900 (altZ w (x.kids.take t) i).length ∧ st.env 109 = inV t ∧ st.obj q 19 = .cells 77 (mcL w nd kn qm) ∧ st.obj qm 17 = .mv (memV M1) ∧ st.obj c1 900 = .row 3 ((altZ w (x.kids.take t) i).map iV)) (fun st => x.kids.length - (st.env 109).toN) ?_ fun e ob g2 hK hO hI => ?_
              · exact ⟨0, _, M, by omega, hM, by (try dsimp only); omega, Nat.le_refl _, by (try dsimp only); omega, (by (try dsimp only); repeat (first | exact hlow | exact LowQ.refl | refine LowQ.or_ ?_ (by assumption) | refine LowQ.up ?_ (by omega) | refine LowQ.at_ ?_ (by simp))), eV_, eV_, oB_, oB_, oB_⟩
              · obtain ⟨t, c1, M1, ht, hM1, hc1, hcg1, hgen1, hlow, e10, e109, hcl, hmv, hrw⟩ := hI
                dsimp only at e10 e109 hcl hmv hrw
                simp only [valsE, List.cons.injEq, and_true] at hK
                simp only [valsO, List.cons.injEq, and_true] at hO
                have hE := (⟨hK, hO, e10, e109, hcl, hmv, hrw⟩ : _ ∧ _ ∧ _ ∧ _ ∧ _ ∧ _ ∧ _)
                dsimp only at hcg1 hgen1 hlow
                have hzl := altZ_len w (x.kids.take t) i
                rw [List.length_take_of_le ht] at hzl
                refine p_goJ ?_
                refine p_seq ?_
                refine p_splitC (s := 110) (ht := fun hc110 => ?_) (hf := fun hc110 => ?_)
                · have hlt : t < x.kids.length := by simpa [hks] using hc110
                  have hlt' : t < kn[n].length := by omega
                  have hlim : ((altZ w (x.kids.take t) i).length + (endsI w x.kids[t] i).length) * 8 ≤ 140737488355328 := by have h1 := endsI_le w x.kids[t] i; have h2 : t * (w.length + 1) ≤ 1000 * 101 := Nat.mul_le_mul (by omega) (by omega); omega
                  refine p_goJ ?_
                  refine p_seq ?_
                  refine p_goJ fun hf => ?_
                  refine p_idxMap (j := t) (ht := Try.underlying79) (hi := F.ti3.h) (hij := rfl) (hj := hlt') (h := ?_)
                  refine p_goJ fun hf => ?_
                  refine p_callX ([(g0 + 1 + 1, 7), (c1, 900)]) (hf := hrec t hlt hlt' i hi M1 hM1) (hg := by simp; omega) (hos := by simp <;> omega) (h := fun r o5 h5 hg5 hlw5 hos5 hR5 => ?_)
                  obtain ⟨rfl, hcl5, M5, hM5, hmv5⟩ := hR5
                  have hlow : LowQ g0 [(q, 19), (qm, 17)] ob0 o5 := LowQ.trans (by (try dsimp only); repeat (first | exact hlow | exact LowQ.refl | refine LowQ.or_ ?_ (by assumption) | refine LowQ.up ?_ (by omega) | refine LowQ.at_ ?_ (by simp))) hlw5 (by first | (dsimp only; omega) | omega) (fun k hk => .inl hk)
                  simp only [valsO, List.cons.injEq, and_true] at hos5
                  have hE := (⟨hK, hos5, hcl5, hmv5, e10, e109⟩ : _ ∧ _ ∧ _ ∧ _ ∧ _ ∧ _)
                  refine p_bump fun hf => ?_
                  refine p_append (ht := Try.underlying79) (hi := F.ti3.h) (hu := eV_) (u := slI (endsI w x.kids[t] i)) (ys := (endsI w x.kids[t] i).map iV) (hnl := by simp) (hy := .inl ⟨rfl, rfl⟩) (k := (altZ w (x.kids.take t) i).length + (endsI w x.kids[t] i).length) (hm := by simp) (hlim := hlim) (h := ?_)
                  refine p_assign (h := ?_)
                  refine p_end ?_
                  refine p_region fun hf => ?_
                  refine p_bare ?_
                  refine p_renSlot (s := 10) 900 (h := ?_)
                  refine p_lastOp (h := ?_)
                  refine p_add (r := ((t + 1 : Nat) : Int)) (hr := (by first | omega | (simp only [decide_eq_true_eq, decide_eq_false_iff_not, Bool.or_eq_false_iff, Bool.and_eq_true, Bool.not_eq_true', Bool.not_eq_false'] at *; omega))) (hb := (by first | omega | (simp only [decide_eq_true_eq, decide_eq_false_iff_not, Bool.or_eq_false_iff, Bool.and_eq_true, Bool.not_eq_true', Bool.not_eq_false'] at *; omega))) (h := ?_)
                  refine p_goJ ?_
                  refine p_some ?_
                  have hz1 := altZ_step (w := w) (i := i) hlt
                  refine ⟨⟨(by simp (decide := true) only [valsE, evE, upd, cv, args0, argsFrom, List.length_map, ↓reduceIte, hE] <;> rfl), (by simp (decide := true) only [valsO, updO, upd, true_and, and_true, false_and, and_false, ↓reduceIte, hE] <;> rfl)⟩, ⟨t + 1, _, M5, hlt, hM5, by (try dsimp only); omega, Nat.le_refl _, by (try dsimp only); omega, (by (try dsimp only); repeat (first | exact hlow | exact LowQ.refl | refine LowQ.or_ ?_ (by assumption) | refine LowQ.up ?_ (by omega) | refine LowQ.at_ ?_ (by simp))), by rw [hz1, List.length_append]; exact eV_, eV_, oB_, oB_, by rw [hz1, List.map_append]; exact oB_⟩, ?_⟩
                  simp (decide := true) only [upd, e109, V.toN, ↓reduceIte]; omega
                · have hge : ¬ t < x.kids.length := by simpa [hks] using hc110
                  have htk : x.kids.take t = x.kids := List.take_of_length_le (by omega)
                  rw [htk] at e10 hrw hzl
                  have hzl2 : (altZ w x.kids i).length ≤ 17592186044416 := by have h2 : t * (w.length + 1) ≤ 1000 * 101 := Nat.mul_le_mul (by omega) (by omega); omega
                  have hE := (⟨hK, hO, e10, e109, hcl, hmv, hrw⟩ : _ ∧ _ ∧ _ ∧ _ ∧ _ ∧ _ ∧ _)
                  refine p_goJ fun hf => ?_
                  refine p_callX ([(g0 + 1 + 1, 7), (q, 19), (qm, 17)]) (hf := (tidyP c1 (altZ w x.kids i) hzl2)) (hg := by simp; omega) (hos := by simp <;> omega) (h := fun r o6 h6 hg6 hlw6 hos6 hR6 => ?_)
                  obtain ⟨rfl, hrt⟩ := hR6
                  have hlow : LowQ g0 [(q, 19), (qm, 17)] ob0 o6 := LowQ.trans (by (try dsimp only); repeat (first | exact hlow | exact LowQ.refl | refine LowQ.or_ ?_ (by assumption) | refine LowQ.up ?_ (by omega) | refine LowQ.at_ ?_ (by simp))) hlw6 (by first | (dsimp only; omega) | omega) (fun k hk => by simp only [List.mem_cons, List.not_mem_nil, or_false] at hk; subst hk; right; (try dsimp only); omega)
                  simp only [valsO, List.cons.injEq, and_true] at hos6
                  have hE := (⟨hK, hos6, hrt, e10⟩ : _ ∧ _ ∧ _ ∧ _)
                  refine p_goJ ?_
                  refine p_frzST (s := 10) eV_ oB_ (by simp) ?_
                  rw [take_tid]
                  refine p_some ?_
                  refine ⟨⟨(by simp (decide := true) only [valsE, evE, upd, cv, args0, argsFrom, List.length_map, ↓reduceIte, hE] <;> rfl), (by simp (decide := true) only [valsO, updO, upd, true_and, and_true, false_and, and_false, ↓reduceIte, hE] <;> rfl)⟩, M1, hM1, by (try dsimp only); omega, (by (try dsimp only); repeat (first | exact hlow | exact LowQ.refl | refine LowQ.or_ ?_ (by assumption) | refine LowQ.up ?_ (by omega) | refine LowQ.at_ ?_ (by simp))), by rw [hE10]; exact eV_, oB_, oB_⟩
            · have h6 : ¬ x.op = 6 := by simpa using hc99
              refine p_goJ ?_
              refine p_splitC (s := 122) (ht := fun hc122 => ?_) (hf := fun hc122 => ?_)
              · have h7 : x.op = 7 := by simpa using hc122
                have hk0x : 0 < x.kids.length := hone (by omega)
                have hk0 : 0 < kn[n].length := by omega
                refine p_goJ fun hf => ?_
                refine p_buildSlice (ht := Try.underlying79) (hi := F.ti3.h) (h := ?_)
                refine p_goJ ?_
                refine p_seq ?_
                refine p_goJ ?_
                refine p_fresh fun hf => ?_
                refine p_renSlot (s := 10) 900 (h := ?_)
                refine p_loopK [0, 1, 7] [(g0 + 1 + 1, 7)] (fun st => ∃ (a c1 : Nat) (L : List Nat) (M3 : List ((Nat × Nat) × List Int)), (Bfs w x i a L) ∧ (a ≤ L.length) ∧ (Good w nd M3) ∧ (g0 + 1 + 1 < c1) ∧ (c1 ≤ st.gen) ∧ (g0 + 1 + 1 + 1 + 1 + 1 + 1 ≤ st.gen) ∧ (LowQ g0 [(q, 19), (qm, 17)] ob0 st.obj) ∧ st.env 10 = .row c1 900 L.length ∧ st.env 16 = inV a ∧ st.obj q 19 = .cells 77 (mcL w nd kn qm) ∧ st.obj qm 17 = .mv (memV M3) ∧ st.obj c1 900 = .row 3 (L.map inV)) (fun st => w.length + 2 - (st.env 16).toN) ?_ fun e ob g3 hK hO hI => ?_
                · exact ⟨0, _, [i], M, Bfs.start hi, by omega, hM, by (try dsimp only); omega, Nat.le_refl _, by (try dsimp only); omega, (by (try dsimp only); repeat (first | exact hlow | exact LowQ.refl | refine LowQ.or_ ?_ (by assumption) | refine LowQ.up ?_ (by omega) | refine LowQ.at_ ?_ (by simp))), eV_, eV_, oB_, oB_, oB_⟩
                · obtain ⟨a, c1, L, M3, hB, ha, hM3, hc1, hcg1, hgen1, hlow, e10, e16, hcl, hmv, hrw⟩ := hI
                  dsimp only at e10 e16 hcl hmv hrw
                  simp only [valsE, List.cons.injEq, and_true] at hK
                  simp only [valsO, List.cons.injEq, and_true] at hO
                  have hE := (⟨hK, hO, e10, e16, hcl, hmv, hrw⟩ : _ ∧ _ ∧ _ ∧ _ ∧ _ ∧ _ ∧ _)
                  dsimp only at hcg1 hgen1 hlow
                  have hBl := hB.len
                  refine p_seq ?_
                  refine p_goJ ?_
                  refine p_splitC (s := 129) (ht := fun hc129 => ?_) (hf := fun hc129 => ?_)
                  · have hlt : a < L.length := by simpa using hc129
                    refine p_goJ ?_
                    refine p_seq ?_
                    refine TrC.block ?_
                    refine p_joinK [0, 1, 7, 10, 16] [(g0 + 1 + 1, 7), (c1, 900)] (fun st => ∃ (M5 : List ((Nat × Nat) × List Int)), (Good w nd M5) ∧ (LowQ g0 [(q, 19), (qm, 17)] ob0 st.obj) ∧ (g0 + 1 + 1 + 1 + 1 + 1 + 1 ≤ st.gen) ∧ (c1 ≤ st.gen) ∧ st.env 146 = .sl 3 ((endsL w x.kids[0] L[a]).map inV) ∧ st.env 147 = inV (endsL w x.kids[0] L[a]).length ∧ st.env 148 = inV 0 ∧ st.obj q 19 = .cells 77 (mcL w nd kn qm) ∧ st.obj qm 17 = .mv (memV M5)) ?_ fun e ob gS146 hK hO hI => ?_
                    ·
                      refine p_drawFre 14 (h := fun hf => ?_)
                      refine p_goJ fun hf => ?_
                      refine p_nilChk (h := ?_)
                      refine p_goJ fun hf => ?_
                      refine p_idxMap (j := n) (ht := Try.underlying75) (hi := F.ti79.h) (hij := rfl) (hj := hn) (h := ?_)
                      refine p_goJ fun hf => ?_
                      refine p_idxMap (j := 0) (ht := Try.underlying79) (hi := F.ti3.h) (hij := rfl) (hj := hk0) (h := ?_)
                      refine p_goJ fun hf => ?_
                      refine p_idxRowN (a) (ht := Try.underlying79) (hi := F.ti3.h) (hij := rfl) (hlt := by simpa using hlt) (h := ?_)
                      refine p_loadRowM (ht := F.leaf3.h) (hj := by simpa using hlt) (h := ?_)
                      refine p_fre ?_ ?_
                      ·
                        refine p_goJ fun hf => ?_
                        refine p_freEnd (h := ?_)
                        refine p_lastOp (h := ?_)
                        refine p_callX ([(g0 + 1 + 1, 7), (c1, 900)]) (hf := hrec 0 hk0x hk0 L[a] (hB.mem _ (List.getElem_mem hlt)).1 M3 hM3) (hg := by simp; omega) (hos := by simp <;> omega) (h := fun r o5 h5 hg5 hlw5 hos5 hR5 => ?_)
                        obtain ⟨rfl, hcl5, M5, hM5, hmv5⟩ := hR5
                        have hlow : LowQ g0 [(q, 19), (qm, 17)] ob0 o5 := LowQ.trans (by (try dsimp only); repeat (first | exact hlow | exact LowQ.refl | refine LowQ.or_ ?_ (by assumption) | refine LowQ.up ?_ (by omega) | refine LowQ.at_ ?_ (by simp))) hlw5 (by first | (dsimp only; omega) | omega) (fun k hk => .inl hk)
                        simp only [valsO, List.cons.injEq, and_true] at hos5
                        have hE := (⟨hK, hos5, hcl5, hmv5, e10, e16⟩ : _ ∧ _ ∧ _ ∧ _ ∧ _ ∧ _)
                        refine p_goJ ?_
                        refine p_some ?_
                        refine ⟨⟨(by simp (decide := true) only [valsE, evE, upd, cv, args0, argsFrom, List.length_map, ↓reduceIte, hE] <;> rfl), (by simp (decide := true) only [valsO, updO, upd, true_and, and_true, false_and, and_false, ↓reduceIte, hE] <;> rfl)⟩, M5, hM5, (by (try dsimp only); repeat (first | exact hlow | exact LowQ.refl | refine LowQ.or_ ?_ (by assumption) | refine LowQ.up ?_ (by omega) | refine LowQ.at_ ?_ (by simp))), by (try dsimp only); omega, by (try dsimp only); omega, by rw [← endsI_eq]; exact eV_, by rw [← endsI_len]; exact eV_, eV_, oB_, oB_⟩
                      ·
                        refine p_callX ([(g0 + 1 + 1, 7), (c1, 900)]) (hf := hrec 0 hk0x hk0 L[a] (hB.mem _ (List.getElem_mem hlt)).1 M3 hM3) (hg := by simp; omega) (hos := by simp <;> omega) (h := fun r o5 h5 hg5 hlw5 hos5 hR5 => ?_)
                        obtain ⟨rfl, hcl5, M5, hM5, hmv5⟩ := hR5
                        have hlow : LowQ g0 [(q, 19), (qm, 17)] ob0 o5 := LowQ.trans (by (try dsimp only); repeat (first | exact hlow | exact LowQ.refl | refine LowQ.or_ ?_ (by assumption) | refine LowQ.up ?_ (by omega) | refine LowQ.at_ ?_ (by simp))) hlw5 (by first | (dsimp only; omega) | omega) (fun k hk => .inl hk)
                        simp only [valsO, List.cons.injEq, and_true] at hos5
                        have hE := (⟨hK, hos5, hcl5, hmv5, e10, e16⟩ : _ ∧ _ ∧ _ ∧ _ ∧ _ ∧ _)
                        refine p_goJ ?_
                        refine p_two ?_ ?_
                        ·
                          refine p_goJ ?_
                          refine p_some ?_
                          refine ⟨⟨(by simp (decide := true) only [valsE, evE, upd, cv, args0, argsFrom, List.length_map, ↓reduceIte, hE] <;> rfl), (by simp (decide := true) only [valsO, updO, upd, true_and, and_true, false_and, and_false, ↓reduceIte, hE] <;> rfl)⟩, M5, hM5, (by (try dsimp only); repeat (first | exact hlow | exact LowQ.refl | refine LowQ.or_ ?_ (by assumption) | refine LowQ.up ?_ (by omega) | refine LowQ.at_ ?_ (by simp))), by (try dsimp only); omega, by (try dsimp only); omega, by rw [← endsI_eq]; exact eV_, by rw [← endsI_len]; exact eV_, eV_, oB_, oB_⟩
                        ·
                          refine p_goJ ?_
                          refine p_some ?_
                          refine ⟨⟨(by simp (decide := true) only [valsE, evE, upd, cv, args0, argsFrom, List.length_map, ↓reduceIte, hE] <;> rfl), (by simp (decide := true) only [valsO, updO, upd, true_and, and_true, false_and, and_false, ↓reduceIte, hE] <;> rfl)⟩, M5, hM5, (by (try dsimp only); repeat (first | exact hlow | exact LowQ.refl | refine LowQ.or_ ?_ (by assumption) | refine LowQ.up ?_ (by omega) | refine LowQ.at_ ?_ (by simp))), by (try dsimp only); omega, by (try dsimp only); omega, by rw [← endsI_eq]; exact eV_, by rw [← endsI_len]; exact eV_, eV_, oB_, oB_⟩
                    · obtain ⟨M3, hM3, hlow, hgen4, hcg4, e146, e147, e148, hcl, hmv⟩ := hI
                      dsimp only at e146 e147 e148 hcl hmv
                      simp only [valsE, List.cons.injEq, and_true] at hK
                      simp only [valsO, List.cons.injEq, and_true] at hO
                      have hE := (⟨hK, hO, e146, e147, e148, hcl, hmv⟩ : _ ∧ _ ∧ _ ∧ _ ∧ _ ∧ _ ∧ _)
                      dsimp only at hlow hgen4 hcg4
                      refine p_goJ ?_
                      refine p_loopK [0, 1, 7, 16, 146, 147] [(g0 + 1 + 1, 7)] (fun st => ∃ (u c1 : Nat) (L2 : List Nat), (u ≤ (endsL w x.kids[0] L[a]).length) ∧ (Bfs w x i a L2) ∧ (a < L2.length) ∧ (L2[a]? = some L[a]) ∧ (∀ v (hv : v < (endsL w x.kids[0] L[a]).length), v < u → (endsL w x.kids[0] L[a])[v] ∈ L2) ∧ (g0 + 1 + 1 < c1) ∧ (c1 ≤ st.gen) ∧ (g0 + 1 + 1 + 1 + 1 + 1 + 1 ≤ st.gen) ∧ (LowQ g0 [(q, 19), (qm, 17)] ob0 st.obj) ∧ st.env 10 = .row c1 900 L2.length ∧ st.env 148 = inV u ∧ st.obj q 19 = .cells 77 (mcL w nd kn qm) ∧ st.obj qm 17 = .mv (memV M3) ∧ st.obj c1 900 = .row 3 (L2.map inV)) (fun st => (endsL w x.kids[0] L[a]).length - (st.env 148).toN) ?_ fun e ob g4 hK hO hI => ?_
                      · exact ⟨0, c1, L, by omega, hB, hlt, List.getElem?_eq_getElem hlt, fun _ _ h => by omega, hc1, by (try dsimp only); omega, by (try dsimp only); omega, (by (try dsimp only); repeat (first | exact hlow | exact LowQ.refl | refine LowQ.or_ ?_ (by assumption) | refine LowQ.up ?_ (by omega) | refine LowQ.at_ ?_ (by simp))), eV_, eV_, oB_, oB_, oB_⟩
                      · obtain ⟨u, c1, L2, hu, hB2, ha2, hLa, hes, hc1, hcg1, hgen1, hlow, e10, e148, hcl, hmv, hrw⟩ := hI
                        dsimp only at e10 e148 hcl hmv hrw
                        simp only [valsE, List.cons.injEq, and_true] at hK
                        simp only [valsO, List.cons.injEq, and_true] at hO
                        have hE := (⟨hK, hO, e10, e148, hcl, hmv, hrw⟩ : _ ∧ _ ∧ _ ∧ _ ∧ _ ∧ _ ∧ _)
                        dsimp only at hcg1 hgen1 hlow
                        have hBl2 := hB2.len
                        have hel := endsI_le w x.kids[0] L[a]
                        rw [endsI_len] at hel
                        have hLb : L2[a]'ha2 = L[a] := Option.some.inj ((List.getElem?_eq_getElem ha2).symm.trans hLa)
                        refine p_goJ ?_
                        refine p_seq ?_
                        refine p_splitC (s := 149) (ht := fun hc149 => ?_) (hf := fun hc149 => ?_)
                        · have hlt4 : u < (endsL w x.kids[0] L[a]).length := by simpa using hc149
                          refine p_goJ ?_
                          refine p_seq ?_
                          refine p_goJ fun hf => ?_
                          refine p_idxMap (j := u) (ht := Try.underlying79) (hi := F.ti3.h) (hij := rfl) (hj := hlt4) (h := ?_)
                          refine p_goJ fun hf => ?_
                          refine p_callX ([(g0 + 1 + 1, 7), (q, 19), (qm, 17)]) (hf := contains_rw c1 L2 (endsL w x.kids[0] L[a])[u] (by omega)) (hg := by simp; omega) (hos := by simp <;> omega) (h := fun r o9 h9 hg9 hlw9 hos9 hR9 => ?_)
                          obtain ⟨rfl, hrw⟩ := hR9
                          have hlow : LowQ g0 [(q, 19), (qm, 17)] ob0 o9 := LowQ.trans (by (try dsimp only); repeat (first | exact hlow | exact LowQ.refl | refine LowQ.or_ ?_ (by assumption) | refine LowQ.up ?_ (by omega) | refine LowQ.at_ ?_ (by simp))) hlw9 (by first | (dsimp only; omega) | omega) (fun k hk => by simp only [List.mem_cons, List.not_mem_nil, or_false] at hk; subst hk; right; (try dsimp only); omega)
                          simp only [valsO, List.cons.injEq, and_true] at hos9
                          have hE := (⟨hK, hos9, hrw, e10, e16, e148⟩ : _ ∧ _ ∧ _ ∧ _ ∧ _ ∧ _)
                          refine p_goJ ?_
                          refine p_splitC (s := 155) (ht := fun hc155 => ?_) (hf := fun hc155 => ?_)
                          · have hnin : (endsL w x.kids[0] L[a])[u] ∉ L2 := by simpa using hc155
                            refine p_goJ fun hf => ?_
                            refine p_buildSlice (ht := Try.underlying79) (hi := F.ti3.h) (h := ?_)
                            refine p_append (ht := Try.underlying79) (hi := F.ti3.h) (u := .row _ 158 1) (ys := [inV (endsL w x.kids[0] L[a])[u]]) (hnl := by simp) (hy := ⟨.inl oB_, rfl⟩) (k := L2.length + 1) (hm := by simp) (hlim := by omega) (h := ?_)
                            refine p_assign (h := ?_)
                            refine p_end ?_
                            refine p_region fun hf => ?_
                            refine p_bare ?_
                            refine p_renSlot (s := 10) 900 (h := ?_)
                            refine p_lastOp (h := ?_)
                            refine p_add (r := ((u + 1 : Nat) : Int)) (hr := (by first | omega | (simp only [decide_eq_true_eq, decide_eq_false_iff_not, Bool.or_eq_false_iff, Bool.and_eq_true, Bool.not_eq_true', Bool.not_eq_false'] at *; omega))) (hb := (by first | omega | (simp only [decide_eq_true_eq, decide_eq_false_iff_not, Bool.or_eq_false_iff, Bool.and_eq_true, Bool.not_eq_true', Bool.not_eq_false'] at *; omega))) (h := ?_)
                            refine p_goJ ?_
                            refine p_some ?_
                            have hmm := mem_endsL.1 (List.getElem_mem hlt4)
                            refine ⟨⟨(by simp (decide := true) only [valsE, evE, upd, cv, args0, argsFrom, List.length_map, ↓reduceIte, hE] <;> rfl), (by simp (decide := true) only [valsO, updO, upd, true_and, and_true, false_and, and_false, ↓reduceIte, hE] <;> rfl)⟩, ⟨u + 1, _, L2 ++ [(endsL w x.kids[0] L[a])[u]], hlt4, hB2.more (b := L[a]) (hLb ▸ List.getElem_mem ha2) (by omega) (by rw [hdB_at hk0x]; exact hmm.2) hnin (by omega), by simp; omega, by rw [List.getElem?_append_left ha2]; exact hLa, fun v hv h => (Nat.lt_succ_iff_lt_or_eq.1 h).elim (fun h => List.mem_append_left _ (hes v hv h)) (fun h => by subst h; simp), by (try dsimp only); omega, Nat.le_refl _, by (try dsimp only); omega, (by (try dsimp only); repeat (first | exact hlow | exact LowQ.refl | refine LowQ.or_ ?_ (by assumption) | refine LowQ.up ?_ (by omega) | refine LowQ.at_ ?_ (by simp))), by rw [List.length_append]; exact eV_, eV_, oB_, oB_, by rw [List.map_append]; exact oB_⟩, ?_⟩
                            simp (decide := true) only [upd, e148, V.toN, ↓reduceIte]; omega
                          · have hin : (endsL w x.kids[0] L[a])[u] ∈ L2 := by simpa using hc155
                            refine p_goJ fun hf => ?_
                            refine p_add (r := ((u + 1 : Nat) : Int)) (hr := (by first | omega | (simp only [decide_eq_true_eq, decide_eq_false_iff_not, Bool.or_eq_false_iff, Bool.and_eq_true, Bool.not_eq_true', Bool.not_eq_false'] at *; omega))) (hb := (by first | omega | (simp only [decide_eq_true_eq, decide_eq_false_iff_not, Bool.or_eq_false_iff, Bool.and_eq_true, Bool.not_eq_true', Bool.not_eq_false'] at *; omega))) (h := ?_)
                            refine p_goJ ?_
                            refine p_some ?_
                            refine ⟨⟨(by simp (decide := true) only [valsE, evE, upd, cv, args0, argsFrom, List.length_map, ↓reduceIte, hE] <;> rfl), (by simp (decide := true) only [valsO, updO, upd, true_and, and_true, false_and, and_false, ↓reduceIte, hE] <;> rfl)⟩, ⟨u + 1, c1, L2, hlt4, hB2, ha2, hLa, fun v hv h => (Nat.lt_succ_iff_lt_or_eq.1 h).elim (fun h => hes v hv h) (fun h => by subst h; exact hin), hc1, by (try dsimp only); omega, by (try dsimp only); omega, (by (try dsimp only); repeat (first | exact hlow | exact LowQ.refl | refine LowQ.or_ ?_ (by assumption) | refine LowQ.up ?_ (by omega) | refine LowQ.at_ ?_ (by simp))), eV_, eV_, oB_, oB_, oB_⟩, ?_⟩
                            simp (decide := true) only [upd, e148, V.toN, ↓reduceIte]; omega
                        · have hge4 : ¬ u < (endsL w x.kids[0] L[a]).length := by simpa using hc149
                          refine p_goJ fun hf => ?_
                          refine p_add (r := ((a + 1 : Nat) : Int)) (hr := (by first | omega | (simp only [decide_eq_true_eq, decide_eq_false_iff_not, Bool.or_eq_false_iff, Bool.and_eq_true, Bool.not_eq_true', Bool.not_eq_false'] at *; omega))) (hb := (by first | omega | (simp only [decide_eq_true_eq, decide_eq_false_iff_not, Bool.or_eq_false_iff, Bool.and_eq_true, Bool.not_eq_true', Bool.not_eq_false'] at *; omega))) (h := ?_)
                          refine p_goJ ?_
                          refine p_some ?_
                          refine ⟨⟨(by simp (decide := true) only [valsE, evE, upd, cv, args0, argsFrom, List.length_map, ↓reduceIte, hE] <;> rfl), (by simp (decide := true) only [valsO, updO, upd, true_and, and_true, false_and, and_false, ↓reduceIte, hE] <;> rfl)⟩, ⟨a + 1, c1, L2, M3, hB2.next (by omega) hk0x (fun c hc => by rw [hLb] at hc; obtain ⟨v, hv, rfl⟩ := List.mem_iff_getElem.1 hc; exact hes v hv (by omega)), by omega, hM3, hc1, by (try dsimp only); omega, by (try dsimp only); omega, (by (try dsimp only); repeat (first | exact hlow | exact LowQ.refl | refine LowQ.or_ ?_ (by assumption) | refine LowQ.up ?_ (by omega) | refine LowQ.at_ ?_ (by simp))), eV_, eV_, oB_, oB_, oB_⟩, ?_⟩
                          simp (decide := true) only [upd, e16, V.toN, ↓reduceIte]; omega
                  · have hge : ¬ a < L.length := by simpa using hc129
                    have hE10 := (hB.done (by omega) hi h7).symm
                    rw [inV_map] at hrw
                    have hE := (⟨hK, hO, e10, e16, hcl, hmv, hrw⟩ : _ ∧ _ ∧ _ ∧ _ ∧ _ ∧ _ ∧ _)
                    refine p_goJ fun hf => ?_
                    refine p_callX ([(g0 + 1 + 1, 7), (q, 19), (qm, 17)]) (hf := (tidyP c1 (L.map fun j : Nat => (j : Int)) (by simp; omega))) (hg := by simp; omega) (hos := by simp <;> omega) (h := fun r o6 h6 hg6 hlw6 hos6 hR6 => ?_)
                    obtain ⟨rfl, hrt⟩ := hR6
                    have hlow : LowQ g0 [(q, 19), (qm, 17)] ob0 o6 := LowQ.trans (by (try dsimp only); repeat (first | exact hlow | exact LowQ.refl | refine LowQ.or_ ?_ (by assumption) | refine LowQ.up ?_ (by omega) | refine LowQ.at_ ?_ (by simp))) hlw6 (by first | (dsimp only; omega) | omega) (fun k hk => by simp only [List.mem_cons, List.not_mem_nil, or_false] at hk; subst hk; right; (try dsimp only); omega)
                    simp only [valsO, List.cons.injEq, and_true] at hos6
                    have hE := (⟨hK, hos6, hrt, e10⟩ : _ ∧ _ ∧ _ ∧ _)
                    refine p_goJ ?_
                    refine p_frzST (s := 10) eV_ oB_ (by simp) ?_
                    rw [take_tid]
                    refine p_some ?_
                    refine ⟨⟨(by simp (decide := true) only [valsE, evE, upd, cv, args0, argsFrom, List.length_map, ↓reduceIte, hE] <;> rfl), (by simp (decide := true) only [valsO, updO, upd, true_and, and_true, false_and, and_false, ↓reduceIte, hE] <;> rfl)⟩, M3, hM3, by (try dsimp only); omega, (by (try dsimp only); repeat (first | exact hlow | exact LowQ.refl | refine LowQ.or_ ?_ (by assumption) | refine LowQ.up ?_ (by omega) | refine LowQ.at_ ?_ (by simp))), by rw [hE10]; exact eV_, oB_, oB_⟩
              · have h7 : ¬ x.op = 7 := by simpa using hc122
                refine p_goJ ?_
                refine p_splitC (s := 163) (ht := fun hc163 => ?_) (hf := fun hc163 => ?_)
                · have h8 : x.op = 8 := by simpa using hc163
                  have hk0x : 0 < x.kids.length := hone (by omega)
                  have hk0 : 0 < kn[n].length := by omega
                  refine p_goJ fun hf => ?_
                  refine p_nilChk (h := ?_)
                  refine p_goJ fun hf => ?_
                  refine p_idxMap (j := n) (ht := Try.underlying75) (hi := F.ti79.h) (hij := rfl) (hj := hn) (h := ?_)
                  refine p_goJ fun hf => ?_
                  refine p_idxMap (j := 0) (ht := Try.underlying79) (hi := F.ti3.h) (hij := rfl) (hj := hk0) (h := ?_)
                  refine p_goJ fun hf => ?_
                  refine p_callX ([(g0 + 1 + 1, 7)]) (hf := hrec 0 hk0x hk0 i hi M hM) (hg := by simp; omega) (hos := by simp <;> omega) (h := fun r o5 h5 hg5 hlw5 hos5 hR5 => ?_)
                  obtain ⟨rfl, hcl5, M5, hM5, hmv5⟩ := hR5
                  have hlow : LowQ g0 [(q, 19), (qm, 17)] ob0 o5 := LowQ.trans (by (try dsimp only); repeat (first | exact hlow | exact LowQ.refl | refine LowQ.or_ ?_ (by assumption) | refine LowQ.up ?_ (by omega) | refine LowQ.at_ ?_ (by simp))) hlw5 (by first | (dsimp only; omega) | omega) (fun k hk => .inl hk)
                  simp only [valsO, List.cons.injEq, and_true] at hos5
                  have hE := (⟨hK, hos5, hcl5, hmv5⟩ : _ ∧ _ ∧ _ ∧ _)
                  refine p_goJ ?_
                  refine p_fresh fun hf => ?_
                  refine p_nilSlot (s := 10) (el := 3) 900 (h := ?_)
                  refine p_loopK [0, 7, 19] [(g0 + 1 + 1, 7)] (fun st => ∃ (to c1 : Nat), (i ≤ to) ∧ (to ≤ w.length + 1) ∧ (g0 + 1 + 1 < c1) ∧ (c1 ≤ st.gen) ∧ (g0 + 1 + 1 + 1 + 1 + 1 + 1 ≤ st.gen) ∧ (LowQ g0 [(q, 19), (qm, 17)] ob0 st.obj) ∧ st.env 10 = .row c1 900 (noL (endsL w x.kids[0] i) i to).length ∧ st.env 20 = inV to ∧ st.obj q 19 = .cells 77 (mcL w nd kn qm) ∧ st.obj qm 17 = .mv (memV M5) ∧ st.obj c1 900 = .row 3 ((noL (endsL w x.kids[0] i) i to).map inV)) (fun st => w.length + 2 - (st.env 20).toN) ?_ fun e ob g5 hK hO hI => ?_
                  · exact ⟨i, _, Nat.le_refl _, by omega, by (try dsimp only); omega, Nat.le_refl _, by (try dsimp only); omega, (by (try dsimp only); repeat (first | exact hlow | exact LowQ.refl | refine LowQ.or_ ?_ (by assumption) | refine LowQ.up ?_ (by omega) | refine LowQ.at_ ?_ (by simp))), by rw [noL_start]; exact eV_, eV_, oB_, oB_, by rw [noL_start]; exact oB_⟩
                  · obtain ⟨to, c1, hto1, hto2, hc1, hcg1, hgen1, hlow, e10, e20, hcl, hmv, hrw⟩ := hI
                    dsimp only at e10 e20 hcl hmv hrw
                    simp only [valsE, List.cons.injEq, and_true] at hK
                    simp only [valsO, List.cons.injEq, and_true] at hO
                    have hE := (⟨hK, hO, e10, e20, hcl, hmv, hrw⟩ : _ ∧ _ ∧ _ ∧ _ ∧ _ ∧ _ ∧ _)
                    dsimp only at hcg1 hgen1 hlow
                    have hnl := noL_len (endsL w x.kids[0] i) i to
                    refine p_seq ?_
                    refine p_goJ fun hf => ?_
                    refine p_nilChk (h := ?_)
                    refine p_goJ ?_
                    refine p_splitC (s := 184) (ht := fun hc184 => ?_) (hf := fun hc184 => ?_)
                    · have hlt : to ≤ w.length := by simp at hc184; omega
                      refine p_goJ ?_
                      refine p_seq ?_
                      refine p_goJ fun hf => ?_
                      refine p_call (hx := rfl) (hb := ⟨Try.func34, by kernel_rfl, rfl⟩) (hf := contains_int (endsI w x.kids[0] i) to (Nat.le_trans (endsI_le ..) (by omega))) (h := ?_)
                      refine p_goJ ?_
                      refine p_splitC (s := 190) (ht := fun hc190 => ?_) (hf := fun hc190 => ?_)
                      · have hnin : to ∉ endsL w x.kids[0] i := fun hh => by rw [decide_eq_true (mem_endsI_nat.2 hh)] at hc190; simp at hc190
                        refine p_goJ fun hf => ?_
                        refine p_buildSlice (ht := Try.underlying79) (hi := F.ti3.h) (h := ?_)
                        refine p_append (ht := Try.underlying79) (hi := F.ti3.h) (u := .row _ 193 1) (ys := [inV to]) (hnl := by simp) (hy := ⟨.inl oB_, rfl⟩) (k := (noL (endsL w x.kids[0] i) i to).length + 1) (hm := by simp) (hlim := by omega) (h := ?_)
                        refine p_assign (h := ?_)
                        refine p_end ?_
                        refine p_region fun hf => ?_
                        refine p_move (h := ?_)
                        refine p_bare ?_
                        refine p_renSlot (s := 10) 900 (h := ?_)
                        refine p_lastOp (h := ?_)
                        refine p_add (r := ((to + 1 : Nat) : Int)) (hr := (by first | omega | (simp only [decide_eq_true_eq, decide_eq_false_iff_not, Bool.or_eq_false_iff, Bool.and_eq_true, Bool.not_eq_true', Bool.not_eq_false'] at *; omega))) (hb := (by first | omega | (simp only [decide_eq_true_eq, decide_eq_false_iff_not, Bool.or_eq_false_iff, Bool.and_eq_true, Bool.not_eq_true', Bool.not_eq_false'] at *; omega))) (h := ?_)
                        refine p_goJ ?_
                        refine p_some ?_
                        refine ⟨⟨(by simp (decide := true) only [valsE, evE, upd, cv, args0, argsFrom, List.length_map, ↓reduceIte, hE] <;> rfl), (by simp (decide := true) only [valsO, updO, upd, true_and, and_true, false_and, and_false, ↓reduceIte, hE] <;> rfl)⟩, ⟨to + 1, _, by omega, by omega, by (try dsimp only); omega, Nat.le_refl _, by (try dsimp only); omega, (by (try dsimp only); repeat (first | exact hlow | exact LowQ.refl | refine LowQ.or_ ?_ (by assumption) | refine LowQ.up ?_ (by omega) | refine LowQ.at_ ?_ (by simp))), by rw [noL_yes hto1 hnin, List.length_append]; exact eV_, eV_, oB_, oB_, by rw [noL_yes hto1 hnin, List.map_append]; exact oB_⟩, ?_⟩
                        simp (decide := true) only [upd, e20, V.toN, ↓reduceIte]; omega
                      · have hin : to ∈ endsL w x.kids[0] i := mem_endsI_nat.1 (by simpa using hc190)
                        refine p_goJ fun hf => ?_
                        refine p_add (r := ((to + 1 : Nat) : Int)) (hr := (by first | omega | (simp only [decide_eq_true_eq, decide_eq_false_iff_not, Bool.or_eq_false_iff, Bool.and_eq_true, Bool.not_eq_true', Bool.not_eq_false'] at *; omega))) (hb := (by first | omega | (simp only [decide_eq_true_eq, decide_eq_false_iff_not, Bool.or_eq_false_iff, Bool.and_eq_true, Bool.not_eq_true', Bool.not_eq_false'] at *; omega))) (h := ?_)
                        refine p_goJ ?_
                        refine p_some ?_
                        refine ⟨⟨(by simp (decide := true) only [valsE, evE, upd, cv, args0, argsFrom, List.length_map, ↓reduceIte, hE] <;> rfl), (by simp (decide := true) only [valsO, updO, upd, true_and, and_true, false_and, and_false, ↓reduceIte, hE] <;> rfl)⟩, ⟨to + 1, c1, by omega, by omega, hc1, by (try dsimp only); omega, by (try dsimp only); omega, (by (try dsimp only); repeat (first | exact hlow | exact LowQ.refl | refine LowQ.or_ ?_ (by assumption) | refine LowQ.up ?_ (by omega) | refine LowQ.at_ ?_ (by simp))), by rw [noL_no hin]; exact eV_, eV_, oB_, oB_, by rw [noL_no hin]; exact oB_⟩, ?_⟩
                        simp (decide := true) only [upd, e20, V.toN, ↓reduceIte]; omega
                    · have hto : to = w.length + 1 := by simp at hc184; omega
                      refine p_goJ ?_
                      refine p_frzS (s := 10) eV_ oB_ (by first | rfl | simp) ?_
                      refine p_some ?_
                      refine ⟨⟨(by simp (decide := true) only [valsE, evE, upd, cv, args0, argsFrom, List.length_map, ↓reduceIte, hE] <;> rfl), (by simp (decide := true) only [valsO, updO, upd, true_and, and_true, false_and, and_false, ↓reduceIte, hE] <;> rfl)⟩, M5, hM5, by (try dsimp only); omega, (by (try dsimp only); repeat (first | exact hlow | exact LowQ.refl | refine LowQ.or_ ?_ (by assumption) | refine LowQ.up ?_ (by omega) | refine LowQ.at_ ?_ (by simp))), by rw [slI, ends_no2 h8 hk0x, ← hto]; exact eV_, oB_, oB_⟩
                · have h8 : ¬ x.op = 8 := by simpa using hc163
                  have hE10 : endsI w x i = [] := ends_not (.inr (.inr ⟨hop1, hop2, h3, h5, h6, h7, h8⟩))
                  refine p_goJ ?_
                  refine p_nilSl (s := 10) (t := 3) (h := ?_)
                  refine p_some ?_
                  refine ⟨⟨(by simp (decide := true) only [valsE, evE, upd, cv, args0, argsFrom, List.length_map, ↓reduceIte, hE] <;> rfl), (by simp (decide := true) only [valsO, updO, upd, true_and, and_true, false_and, and_false, ↓reduceIte, hE] <;> rfl)⟩, M, hM, by (try dsimp only); omega, (by (try dsimp only); repeat (first | exact hlow | exact LowQ.refl | refine LowQ.or_ ?_ (by assumption) | refine LowQ.up ?_ (by omega) | refine LowQ.at_ ?_ (by simp))), by rw [hE10]; exact eV_, oB_, oB_⟩
  · obtain ⟨M2, hM2, hgen2, hlow, e10, hcl, hmv⟩ := hI
    dsimp only at e10 hcl hmv
    simp only [valsE, List.cons.injEq, and_true] at hK
    simp only [valsO, List.cons.injEq, and_true] at hO
    have hE := (⟨hK, hO, e10, hcl, hmv⟩ : _ ∧ _ ∧ _ ∧ _ ∧ _)
    dsimp only at hgen2 hlow
    refine p_goJ fun hf => ?_
    refine p_nilChk (h := ?_)
    refine p_goJ fun hf => ?_
    refine p_mvPut (kf (n, i)) (ht := Try.underlying74) (hk := kV (n, i)) (hkc := kC _) (hlc := memV_ok _) (h := ?_)
    rw [memV_put]
    refine p_goJ ?_
    refine p_retE1 (v := slI (endsI w x i)) rfl eV_ (hK0 _ _ _ (by first | (dsimp only; omega) | omega) (by (try dsimp only); repeat (first | exact hlow | exact LowQ.refl | refine LowQ.or_ ?_ (by assumption) | refine LowQ.up ?_ (by omega) | refine LowQ.at_ ?_ (by simp))) (⟨rfl, oB_, _, hM2.put hx, oB_⟩))

end Go.Proofs.Ytjdhkopjigijfaa
