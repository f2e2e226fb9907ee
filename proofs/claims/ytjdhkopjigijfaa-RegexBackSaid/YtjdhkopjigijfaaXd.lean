/-
  The printed text of an expression: the program's.
-/
import Derived.Test.YtjdhkopjigijfaaXbc
import Derived.Test.YtjdhkopjigijfaaBd
set_option linter.unusedSimpArgs false
set_option linter.unusedVariables false
set_option maxHeartbeats 4000000
namespace Go.Proofs.Ytjdhkopjigijfaa
open Go.RowKit
attribute [local irreducible] Wk Tr
def wrapB (op outer : Int) : Bool := decide (op = 6) && decide (outer ≠ 0) || decide (op = 5) && (decide (outer = 7) || decide (outer = 8)) || decide (op = 8) && decide (outer = 7)
def sepB (op : Int) : ByteArray := if op = 6 then ⟨#[32, 124, 32]⟩ else ⟨#[32]⟩
mutual
def wr : Rx → Int → List UInt8
  | .mk op nm ks, outer => (if wrapB op outer = true then [40] else []) ++ (if op = 1 then nm.data.toList else if op = 2 then [46] else if op = 3 then [37] else if op = 4 then [35] else if op = 7 then wrH ks 7 ++ [42] else if op = 8 then [33] ++ wrH ks 8 else wrL ks op true) ++ (if wrapB op outer = true then [41] else [])
def wrH : List Rx → Int → List UInt8
  | [], _ => []
  | k :: _, op => wr k op
def wrL : List Rx → Int → Bool → List UInt8
  | [], _, _ => []
  | k :: ks, op, fst => (if fst = true then [] else (sepB op).data.toList) ++ wr k op ++ wrL ks op false
end
def wrI (x : Rx) : List UInt8 := if x.op = 1 then x.name.data.toList else if x.op = 2 then [46] else if x.op = 3 then [37] else if x.op = 4 then [35] else if x.op = 7 then wrH x.kids 7 ++ [42] else if x.op = 8 then [33] ++ wrH x.kids 8 else wrL x.kids x.op true
theorem wr_eq (x : Rx) (o : Int) : wr x o = (if wrapB x.op o = true then [40] else []) ++ wrI x ++ (if wrapB x.op o = true then [41] else []) := by cases x; rw [wr]; rfl
theorem wr_off {x : Rx} {o : Int} (h : wrapB x.op o = false) : wr x o = wrI x := by rw [wr_eq, h]; simp
theorem wr_on {x : Rx} {o : Int} (h : wrapB x.op o = true) : wr x o = [40] ++ wrI x ++ [41] := by rw [wr_eq, h]; simp
theorem wrH_at {l : List Rx} (h : 0 < l.length) (o : Int) : wrH l o = wr l[0] o := by cases l with | nil => simp at h | cons a l => rw [wrH]; rfl
/-- The calls that are put off, and what stands ahead. -/
def WD (q : Nat) (dfs : List Dfr) (w : Bool) (bs bs1 : List UInt8) : Prop := (w = false ∧ dfs = [] ∧ bs1 = bs) ∨ (w = true ∧ dfs = [.cal 66 [.ptr q 5 0, byV 41]] ∧ bs1 = bs ++ [40])
theorem Bd.trans {q p p1 g g1 g' : Nat} {bs : List UInt8} {o : Nat → Nat → Ob} (h : Bd q p1 g1 bs o g') (hp : p1 = p ∨ g < p1) (hg : g ≤ g1) : Bd q p g bs o g' := by
  obtain ⟨a, p', h1, h2, h3, h4, h5⟩ := h
  exact ⟨a, p', h1, by omega, h3, h4, h5⟩

theorem write_gen (q p : Nat) (x : Rx) (outer : Int) (a : V) (ha : BdA q a) (bs : List UInt8) (hb : bs.length + (wr x outer).length ≤ 140737488355327) (hs : x.kids.length ≤ 17592186044416) (hk : x.op = 7 ∨ x.op = 8 → 0 < x.kids.length) (hrec : ∀ k ∈ x.kids, ∀ (outer : Int) (p : Nat) (a : V), BdA q a → ∀ bs : List UInt8, bs.length + (wr k outer).length ≤ 140737488355327 → FnX Try.prog 37 [.ptr q 5 0, rxA k, iV outer] [(q, 5), (p, 900)] [.cells 88 [a, .row p 900 bs.length], .row 5 (bs.map byV)] (fun g r o g' => r = .tup [] ∧ Bd q p g (bs ++ wr k outer) o g')) : FnX Try.prog 37 [.ptr q 5 0, rxA x, iV outer] [(q, 5), (p, 900)] [.cells 88 [a, .row p 900 bs.length], .row 5 (bs.map byV)] (fun g r o g' => r = .tup [] ∧ Bd q p g (bs ++ wr x outer) o g') := by
  refine FnX.of (fn := Try.f37) ⟨Try.func37, by kernel_rfl, rfl⟩ Try.ntmps37 (by simp) fun w0 S0 l ob0 g0 K hrow hgl hK0 => ?_
  simp only [valsO, List.cons.injEq, and_true] at hrow
  simp only [List.mem_cons, List.not_mem_nil, or_false, forall_eq_or_imp, forall_eq, forall_const] at hgl
  have hE := hrow
  refine p_goJ ?_
  refine p_joinD (fun dfs st => ∃ a p1 bs1, BdA q a ∧ (p1 = p ∨ g0 < p1) ∧ p1 ≤ st.gen ∧ g0 ≤ st.gen ∧ LowQ g0 [(q, 5), (p, 900)] ob0 st.obj ∧ WD q dfs (wrapB x.op outer) bs bs1 ∧ st.env 0 = .ptr q 5 0 ∧ st.env 4 = .ptr (g0 + 1) 4 0 ∧ st.obj (g0 + 1) 4 = .cells 25 (rxL x) ∧ st.obj q 5 = .cells 88 [a, .row p1 900 bs1.length] ∧ st.obj p1 900 = .row 5 (bs1.map byV)) ?_ fun dfs e ob gJ1 hJ => ?_
  ·
    refine p_goJ ?_
    refine p_splitC (s := 39) (ht := fun hc39 => ?_) (hf := fun hc39 => ?_)
    · refine p_goJ fun hf => ?_
      refine p_callX ([(g0 + 1, 4)]) (hf := (writeByte q p a ha bs 40 (by omega)).x) (hg := by simp; omega) (hos := by simp <;> omega) (h := fun r o1 h1 hg1 hlw1 hos1 hR1 => ?_)
      obtain ⟨rfl, a1, p1, ha1, hp1, hpg1, hc1, hrw1⟩ := hR1
      have hpp1 : p1 = p ∨ g0 < p1 := by omega
      have hlow : LowQ g0 [(q, 5), (p, 900)] ob0 o1 := LowQ.trans (by (try dsimp only); repeat (first | exact hlow | exact LowQ.refl | refine LowQ.up ?_ (by omega) | refine LowQ.at_ ?_ (by simp))) hlw1 (by first | (dsimp only; omega) | omega) (fun k hk => by simp only [List.mem_cons, List.not_mem_nil, or_false] at hk; rcases hk with rfl | rfl <;> simp <;> omega)
      simp only [valsO, List.cons.injEq, and_true] at hos1
      have hE := (⟨hos1, hc1, hrw1⟩ : _ ∧ _ ∧ _)
      refine p_goJ fun hf => ?_
      refine p_deferA (h := ?_)
      refine p_goJ ?_
      refine p_someD ?_
      exact ⟨a1, p1, _, ha1, hpp1, by (try dsimp only); omega, by (try dsimp only); omega, (by (try dsimp only); repeat (first | exact hlow | exact LowQ.refl | refine LowQ.up ?_ (by omega) | refine LowQ.at_ ?_ (by simp))), .inr ⟨hc39, rfl, rfl⟩, eV_, eV_, oB_, oB_, oB_⟩
    · refine p_goJ ?_
      refine p_someD ?_
      exact ⟨a, p, _, ha, .inl rfl, by (try dsimp only); omega, by (try dsimp only); omega, (by (try dsimp only); repeat (first | exact hlow | exact LowQ.refl | refine LowQ.up ?_ (by omega) | refine LowQ.at_ ?_ (by simp))), .inl ⟨hc39, rfl, rfl⟩, eV_, eV_, oB_, oB_, oB_⟩
  · obtain ⟨a1, p1, bs1, ha1, hpp1, hpg1, hgen1, hlow, hWD, e0, e4, ho4, hq1, hrw1⟩ := hJ
    dsimp only at hpg1 hgen1 hlow e0 e4 ho4 hq1 hrw1
    have hB : bs1.length + (wrI x).length ≤ 140737488355327 ∧ (wrapB x.op outer = true → bs1.length + (wrI x).length + 1 ≤ 140737488355327) := by
      rw [wr_eq] at hb
      rcases hWD with ⟨hw, _, rfl⟩ | ⟨hw, _, rfl⟩ <;> rw [hw] at hb ⊢ <;> simp at hb ⊢ <;> omega
    obtain ⟨hB, hBw⟩ := hB
    have hE := (⟨e0, e4, ho4, hq1, hrw1⟩ : _ ∧ _ ∧ _ ∧ _ ∧ _)
    refine p_goJ ?_
    refine p_splitC (s := 67) (ht := fun hc67 => ?_) (hf := fun hc67 => ?_)
    · have h67 : x.op = 1 := by simpa using hc67
      have hI : wrI x = x.name.data.toList := by rw [wrI, if_pos h67]
      have hBI := hB
      rw [hI] at hBI
      (try simp only [List.length_append, List.length_singleton] at hBI)
      refine p_goJ fun hf => ?_
      refine p_callX ([(g0 + 1, 4)]) (hf := (writeString q p1 a1 ha1 bs1 x.name (by have h9 : x.name.data.toList.length = x.name.size := (by rw [Array.length_toList]; rfl); omega)).x) (hg := by simp; omega) (hos := by simp <;> omega) (h := fun r o2 h2 hg2 hlw2 hos2 hR2 => ?_)
      obtain ⟨rfl, a2, p2, ha2, hp2, hpg2, hc2, hrw2⟩ := hR2
      have hpp2 : p2 = p ∨ g0 < p2 := by omega
      have hlow : LowQ g0 [(q, 5), (p, 900)] ob0 o2 := LowQ.trans (by (try dsimp only); repeat (first | exact hlow | exact LowQ.refl | refine LowQ.up ?_ (by omega) | refine LowQ.at_ ?_ (by simp))) hlw2 (by first | (dsimp only; omega) | omega) (fun k hk => by simp only [List.mem_cons, List.not_mem_nil, or_false] at hk; rcases hk with rfl | rfl <;> simp <;> omega)
      simp only [valsO, List.cons.injEq, and_true] at hos2
      have hE := (⟨e0, e4, hos2, hc2, hrw2⟩ : _ ∧ _ ∧ _ ∧ _ ∧ _)
      refine p_goJ ?_
      have hfin : bs1 ++ x.name.data.toList = bs1 ++ wrI x := by first | (rw [hI]; done) | (rw [hI]; simp)
      rw [hfin] at hc2 hrw2
      rcases hWD with ⟨hw, rfl, rfl⟩ | ⟨hw, rfl, rfl⟩
      · refine p_retE0 rfl (hK0 _ _ _ (by first | (dsimp only; omega) | omega) (by (try dsimp only); repeat (first | exact hlow | exact LowQ.refl | refine LowQ.up ?_ (by omega) | refine LowQ.at_ ?_ (by simp))) (⟨rfl, a2, p2, ha2, hpp2, by (try dsimp only); omega, by rw [wr_off hw]; exact hc2, by rw [wr_off hw]; exact hrw2⟩))
      · refine p_retDn (p_retD ?_)
        refine p_leave [] (hf := writeByte q p2 a2 ha2 (bs ++ [40] ++ wrI x) 41 (by have := hBw hw; simp only [List.length_append, List.length_singleton] at this ⊢; omega)) (hrow := by simp only [valsO, hc2, hrw2]) (hg := by simp <;> omega) (hos := by simp) (h := fun r o9 h9 hg9 hlw9 hos9 hR9 => ?_)
        obtain ⟨rfl, hBd⟩ := hR9
        have hlow : LowQ g0 [(q, 5), (p, 900)] ob0 o9 := LowQ.trans (by (try dsimp only); repeat (first | exact hlow | exact LowQ.refl | refine LowQ.up ?_ (by omega) | refine LowQ.at_ ?_ (by simp))) hlw9 (by first | (dsimp only; omega) | omega) (fun k hk => by simp only [List.mem_cons, List.not_mem_nil, or_false] at hk; rcases hk with rfl | rfl <;> simp <;> omega)
        refine p_left (p_retE0' rfl (hK0 _ _ _ (by first | (dsimp only; omega) | omega) (by (try dsimp only); repeat (first | exact hlow | exact LowQ.refl | refine LowQ.up ?_ (by omega) | refine LowQ.at_ ?_ (by simp))) (⟨rfl, by rw [wr_on hw]; simpa using hBd.trans hpp2 (by first | (dsimp only; omega) | omega)⟩)))
    · have h67 : ¬ x.op = 1 := by simpa using hc67
      refine p_goJ ?_
      refine p_splitC (s := 73) (ht := fun hc73 => ?_) (hf := fun hc73 => ?_)
      · have h73 : x.op = 2 := by simpa using hc73
        have hI : wrI x = [46] := by rw [wrI, if_neg h67, if_pos h73]
        have hBI := hB
        rw [hI] at hBI
        (try simp only [List.length_append, List.length_singleton] at hBI)
        refine p_goJ fun hf => ?_
        refine p_callX ([(g0 + 1, 4)]) (hf := (writeByte q p1 a1 ha1 bs1 46 (by first | omega | (simp only [List.length_append, List.length_singleton, List.length_cons, List.length_nil] at *; omega))).x) (hg := by simp; omega) (hos := by simp <;> omega) (h := fun r o2 h2 hg2 hlw2 hos2 hR2 => ?_)
        obtain ⟨rfl, a2, p2, ha2, hp2, hpg2, hc2, hrw2⟩ := hR2
        have hpp2 : p2 = p ∨ g0 < p2 := by omega
        have hlow : LowQ g0 [(q, 5), (p, 900)] ob0 o2 := LowQ.trans (by (try dsimp only); repeat (first | exact hlow | exact LowQ.refl | refine LowQ.up ?_ (by omega) | refine LowQ.at_ ?_ (by simp))) hlw2 (by first | (dsimp only; omega) | omega) (fun k hk => by simp only [List.mem_cons, List.not_mem_nil, or_false] at hk; rcases hk with rfl | rfl <;> simp <;> omega)
        simp only [valsO, List.cons.injEq, and_true] at hos2
        have hE := (⟨e0, e4, hos2, hc2, hrw2⟩ : _ ∧ _ ∧ _ ∧ _ ∧ _)
        refine p_goJ ?_
        have hfin : bs1 ++ [46] = bs1 ++ wrI x := by first | (rw [hI]; done) | (rw [hI]; simp)
        rw [hfin] at hc2 hrw2
        rcases hWD with ⟨hw, rfl, rfl⟩ | ⟨hw, rfl, rfl⟩
        · refine p_retE0 rfl (hK0 _ _ _ (by first | (dsimp only; omega) | omega) (by (try dsimp only); repeat (first | exact hlow | exact LowQ.refl | refine LowQ.up ?_ (by omega) | refine LowQ.at_ ?_ (by simp))) (⟨rfl, a2, p2, ha2, hpp2, by (try dsimp only); omega, by rw [wr_off hw]; exact hc2, by rw [wr_off hw]; exact hrw2⟩))
        · refine p_retDn (p_retD ?_)
          refine p_leave [] (hf := writeByte q p2 a2 ha2 (bs ++ [40] ++ wrI x) 41 (by have := hBw hw; simp only [List.length_append, List.length_singleton] at this ⊢; omega)) (hrow := by simp only [valsO, hc2, hrw2]) (hg := by simp <;> omega) (hos := by simp) (h := fun r o9 h9 hg9 hlw9 hos9 hR9 => ?_)
          obtain ⟨rfl, hBd⟩ := hR9
          have hlow : LowQ g0 [(q, 5), (p, 900)] ob0 o9 := LowQ.trans (by (try dsimp only); repeat (first | exact hlow | exact LowQ.refl | refine LowQ.up ?_ (by omega) | refine LowQ.at_ ?_ (by simp))) hlw9 (by first | (dsimp only; omega) | omega) (fun k hk => by simp only [List.mem_cons, List.not_mem_nil, or_false] at hk; rcases hk with rfl | rfl <;> simp <;> omega)
          refine p_left (p_retE0' rfl (hK0 _ _ _ (by first | (dsimp only; omega) | omega) (by (try dsimp only); repeat (first | exact hlow | exact LowQ.refl | refine LowQ.up ?_ (by omega) | refine LowQ.at_ ?_ (by simp))) (⟨rfl, by rw [wr_on hw]; simpa using hBd.trans hpp2 (by first | (dsimp only; omega) | omega)⟩)))
      · have h73 : ¬ x.op = 2 := by simpa using hc73
        refine p_goJ ?_
        refine p_splitC (s := 77) (ht := fun hc77 => ?_) (hf := fun hc77 => ?_)
        · have h77 : x.op = 3 := by simpa using hc77
          have hI : wrI x = [37] := by rw [wrI, if_neg h67, if_neg h73, if_pos h77]
          have hBI := hB
          rw [hI] at hBI
          (try simp only [List.length_append, List.length_singleton] at hBI)
          refine p_goJ fun hf => ?_
          refine p_callX ([(g0 + 1, 4)]) (hf := (writeByte q p1 a1 ha1 bs1 37 (by first | omega | (simp only [List.length_append, List.length_singleton, List.length_cons, List.length_nil] at *; omega))).x) (hg := by simp; omega) (hos := by simp <;> omega) (h := fun r o2 h2 hg2 hlw2 hos2 hR2 => ?_)
          obtain ⟨rfl, a2, p2, ha2, hp2, hpg2, hc2, hrw2⟩ := hR2
          have hpp2 : p2 = p ∨ g0 < p2 := by omega
          have hlow : LowQ g0 [(q, 5), (p, 900)] ob0 o2 := LowQ.trans (by (try dsimp only); repeat (first | exact hlow | exact LowQ.refl | refine LowQ.up ?_ (by omega) | refine LowQ.at_ ?_ (by simp))) hlw2 (by first | (dsimp only; omega) | omega) (fun k hk => by simp only [List.mem_cons, List.not_mem_nil, or_false] at hk; rcases hk with rfl | rfl <;> simp <;> omega)
          simp only [valsO, List.cons.injEq, and_true] at hos2
          have hE := (⟨e0, e4, hos2, hc2, hrw2⟩ : _ ∧ _ ∧ _ ∧ _ ∧ _)
          refine p_goJ ?_
          have hfin : bs1 ++ [37] = bs1 ++ wrI x := by first | (rw [hI]; done) | (rw [hI]; simp)
          rw [hfin] at hc2 hrw2
          rcases hWD with ⟨hw, rfl, rfl⟩ | ⟨hw, rfl, rfl⟩
          · refine p_retE0 rfl (hK0 _ _ _ (by first | (dsimp only; omega) | omega) (by (try dsimp only); repeat (first | exact hlow | exact LowQ.refl | refine LowQ.up ?_ (by omega) | refine LowQ.at_ ?_ (by simp))) (⟨rfl, a2, p2, ha2, hpp2, by (try dsimp only); omega, by rw [wr_off hw]; exact hc2, by rw [wr_off hw]; exact hrw2⟩))
          · refine p_retDn (p_retD ?_)
            refine p_leave [] (hf := writeByte q p2 a2 ha2 (bs ++ [40] ++ wrI x) 41 (by have := hBw hw; simp only [List.length_append, List.length_singleton] at this ⊢; omega)) (hrow := by simp only [valsO, hc2, hrw2]) (hg := by simp <;> omega) (hos := by simp) (h := fun r o9 h9 hg9 hlw9 hos9 hR9 => ?_)
            obtain ⟨rfl, hBd⟩ := hR9
            have hlow : LowQ g0 [(q, 5), (p, 900)] ob0 o9 := LowQ.trans (by (try dsimp only); repeat (first | exact hlow | exact LowQ.refl | refine LowQ.up ?_ (by omega) | refine LowQ.at_ ?_ (by simp))) hlw9 (by first | (dsimp only; omega) | omega) (fun k hk => by simp only [List.mem_cons, List.not_mem_nil, or_false] at hk; rcases hk with rfl | rfl <;> simp <;> omega)
            refine p_left (p_retE0' rfl (hK0 _ _ _ (by first | (dsimp only; omega) | omega) (by (try dsimp only); repeat (first | exact hlow | exact LowQ.refl | refine LowQ.up ?_ (by omega) | refine LowQ.at_ ?_ (by simp))) (⟨rfl, by rw [wr_on hw]; simpa using hBd.trans hpp2 (by first | (dsimp only; omega) | omega)⟩)))
        · have h77 : ¬ x.op = 3 := by simpa using hc77
          refine p_goJ ?_
          refine p_splitC (s := 81) (ht := fun hc81 => ?_) (hf := fun hc81 => ?_)
          · have h81 : x.op = 4 := by simpa using hc81
            have hI : wrI x = [35] := by rw [wrI, if_neg h67, if_neg h73, if_neg h77, if_pos h81]
            have hBI := hB
            rw [hI] at hBI
            (try simp only [List.length_append, List.length_singleton] at hBI)
            refine p_goJ fun hf => ?_
            refine p_callX ([(g0 + 1, 4)]) (hf := (writeByte q p1 a1 ha1 bs1 35 (by first | omega | (simp only [List.length_append, List.length_singleton, List.length_cons, List.length_nil] at *; omega))).x) (hg := by simp; omega) (hos := by simp <;> omega) (h := fun r o2 h2 hg2 hlw2 hos2 hR2 => ?_)
            obtain ⟨rfl, a2, p2, ha2, hp2, hpg2, hc2, hrw2⟩ := hR2
            have hpp2 : p2 = p ∨ g0 < p2 := by omega
            have hlow : LowQ g0 [(q, 5), (p, 900)] ob0 o2 := LowQ.trans (by (try dsimp only); repeat (first | exact hlow | exact LowQ.refl | refine LowQ.up ?_ (by omega) | refine LowQ.at_ ?_ (by simp))) hlw2 (by first | (dsimp only; omega) | omega) (fun k hk => by simp only [List.mem_cons, List.not_mem_nil, or_false] at hk; rcases hk with rfl | rfl <;> simp <;> omega)
            simp only [valsO, List.cons.injEq, and_true] at hos2
            have hE := (⟨e0, e4, hos2, hc2, hrw2⟩ : _ ∧ _ ∧ _ ∧ _ ∧ _)
            refine p_goJ ?_
            have hfin : bs1 ++ [35] = bs1 ++ wrI x := by first | (rw [hI]; done) | (rw [hI]; simp)
            rw [hfin] at hc2 hrw2
            rcases hWD with ⟨hw, rfl, rfl⟩ | ⟨hw, rfl, rfl⟩
            · refine p_retE0 rfl (hK0 _ _ _ (by first | (dsimp only; omega) | omega) (by (try dsimp only); repeat (first | exact hlow | exact LowQ.refl | refine LowQ.up ?_ (by omega) | refine LowQ.at_ ?_ (by simp))) (⟨rfl, a2, p2, ha2, hpp2, by (try dsimp only); omega, by rw [wr_off hw]; exact hc2, by rw [wr_off hw]; exact hrw2⟩))
            · refine p_retDn (p_retD ?_)
              refine p_leave [] (hf := writeByte q p2 a2 ha2 (bs ++ [40] ++ wrI x) 41 (by have := hBw hw; simp only [List.length_append, List.length_singleton] at this ⊢; omega)) (hrow := by simp only [valsO, hc2, hrw2]) (hg := by simp <;> omega) (hos := by simp) (h := fun r o9 h9 hg9 hlw9 hos9 hR9 => ?_)
              obtain ⟨rfl, hBd⟩ := hR9
              have hlow : LowQ g0 [(q, 5), (p, 900)] ob0 o9 := LowQ.trans (by (try dsimp only); repeat (first | exact hlow | exact LowQ.refl | refine LowQ.up ?_ (by omega) | refine LowQ.at_ ?_ (by simp))) hlw9 (by first | (dsimp only; omega) | omega) (fun k hk => by simp only [List.mem_cons, List.not_mem_nil, or_false] at hk; rcases hk with rfl | rfl <;> simp <;> omega)
              refine p_left (p_retE0' rfl (hK0 _ _ _ (by first | (dsimp only; omega) | omega) (by (try dsimp only); repeat (first | exact hlow | exact LowQ.refl | refine LowQ.up ?_ (by omega) | refine LowQ.at_ ?_ (by simp))) (⟨rfl, by rw [wr_on hw]; simpa using hBd.trans hpp2 (by first | (dsimp only; omega) | omega)⟩)))
          · have h81 : ¬ x.op = 4 := by simpa using hc81
            refine p_goJ ?_
            refine p_splitC (s := 85) (ht := fun hc85 => ?_) (hf := fun hc85 => ?_)
            · have h85 : x.op = 7 := by simpa using hc85
              have hlt : 0 < x.kids.length := hk (by omega)
              have hI : wrI x = wr x.kids[0] 7 ++ [42] := by rw [wrI, if_neg h67, if_neg h73, if_neg h77, if_neg h81, if_pos h85, wrH_at hlt]
              have hBI := hB
              rw [hI] at hBI
              (try simp only [List.length_append, List.length_singleton] at hBI)
              refine p_condT (h := ?_)
              refine p_seq (p_drawLast 7 (h := fun hf => ?_))
              refine p_goJ fun hf => ?_
              refine p_idxMap (j := 0) (ht := Try.underlying23) (hi := F.ti25.h) (hij := rfl) (hj := hlt) (h := ?_)
              rw [rxV_cells]
              refine p_goJ ?_
              refine p_lastOp (h := ?_)
              refine p_callX ([(g0 + 1, 4)]) (hf := hrec x.kids[0] (List.getElem_mem hlt) x.op p1 a1 ha1 bs1 (by rw [h85]; omega)) (hg := by simp; omega) (hos := by simp <;> omega) (h := fun r o2 h2 hg2 hlw2 hos2 hR2 => ?_)
              obtain ⟨rfl, a2, p2, ha2, hp2, hpg2, hc2, hrw2⟩ := hR2
              have hpp2 : p2 = p ∨ g0 < p2 := by omega
              have hlow : LowQ g0 [(q, 5), (p, 900)] ob0 o2 := LowQ.trans (by (try dsimp only); repeat (first | exact hlow | exact LowQ.refl | refine LowQ.up ?_ (by omega) | refine LowQ.at_ ?_ (by simp))) hlw2 (by first | (dsimp only; omega) | omega) (fun k hk => by simp only [List.mem_cons, List.not_mem_nil, or_false] at hk; rcases hk with rfl | rfl <;> simp <;> omega)
              simp only [valsO, List.cons.injEq, and_true] at hos2
              have hE := (⟨e0, e4, hos2, hc2, hrw2⟩ : _ ∧ _ ∧ _ ∧ _ ∧ _)
              refine p_goJ fun hf => ?_
              refine p_callX ([(g0 + 1, 4)]) (hf := (writeByte q p2 a2 ha2 (bs1 ++ wr x.kids[0] x.op) 42 (by rw [h85]; simp only [List.length_append]; omega)).x) (hg := by simp; omega) (hos := by simp <;> omega) (h := fun r o3 h3 hg3 hlw3 hos3 hR3 => ?_)
              obtain ⟨rfl, a3, p3, ha3, hp3, hpg3, hc3, hrw3⟩ := hR3
              have hpp3 : p3 = p ∨ g0 < p3 := by omega
              have hlow : LowQ g0 [(q, 5), (p, 900)] ob0 o3 := LowQ.trans (by (try dsimp only); repeat (first | exact hlow | exact LowQ.refl | refine LowQ.up ?_ (by omega) | refine LowQ.at_ ?_ (by simp))) hlw3 (by first | (dsimp only; omega) | omega) (fun k hk => by simp only [List.mem_cons, List.not_mem_nil, or_false] at hk; rcases hk with rfl | rfl <;> simp <;> omega)
              simp only [valsO, List.cons.injEq, and_true] at hos3
              have hE := (⟨e0, e4, hos3, hc3, hrw3⟩ : _ ∧ _ ∧ _ ∧ _ ∧ _)
              refine p_goJ ?_
              have hfin : (bs1 ++ wr x.kids[0] x.op) ++ [42] = bs1 ++ wrI x := by first | (rw [hI, h85]; done) | (rw [hI, h85]; simp)
              rw [hfin] at hc3 hrw3
              rcases hWD with ⟨hw, rfl, rfl⟩ | ⟨hw, rfl, rfl⟩
              · refine p_retE0 rfl (hK0 _ _ _ (by first | (dsimp only; omega) | omega) (by (try dsimp only); repeat (first | exact hlow | exact LowQ.refl | refine LowQ.up ?_ (by omega) | refine LowQ.at_ ?_ (by simp))) (⟨rfl, a3, p3, ha3, hpp3, by (try dsimp only); omega, by rw [wr_off hw]; exact hc3, by rw [wr_off hw]; exact hrw3⟩))
              · refine p_retDn (p_retD ?_)
                refine p_leave [] (hf := writeByte q p3 a3 ha3 (bs ++ [40] ++ wrI x) 41 (by have := hBw hw; simp only [List.length_append, List.length_singleton] at this ⊢; omega)) (hrow := by simp only [valsO, hc3, hrw3]) (hg := by simp <;> omega) (hos := by simp) (h := fun r o9 h9 hg9 hlw9 hos9 hR9 => ?_)
                obtain ⟨rfl, hBd⟩ := hR9
                have hlow : LowQ g0 [(q, 5), (p, 900)] ob0 o9 := LowQ.trans (by (try dsimp only); repeat (first | exact hlow | exact LowQ.refl | refine LowQ.up ?_ (by omega) | refine LowQ.at_ ?_ (by simp))) hlw9 (by first | (dsimp only; omega) | omega) (fun k hk => by simp only [List.mem_cons, List.not_mem_nil, or_false] at hk; rcases hk with rfl | rfl <;> simp <;> omega)
                refine p_left (p_retE0' rfl (hK0 _ _ _ (by first | (dsimp only; omega) | omega) (by (try dsimp only); repeat (first | exact hlow | exact LowQ.refl | refine LowQ.up ?_ (by omega) | refine LowQ.at_ ?_ (by simp))) (⟨rfl, by rw [wr_on hw]; simpa using hBd.trans hpp3 (by first | (dsimp only; omega) | omega)⟩)))
            · have h85 : ¬ x.op = 7 := by simpa using hc85
              refine p_goJ ?_
              refine p_splitC (s := 97) (ht := fun hc97 => ?_) (hf := fun hc97 => ?_)
              · have h97 : x.op = 8 := by simpa using hc97
                have hlt : 0 < x.kids.length := hk (by omega)
                have hI : wrI x = ([33] : List UInt8) ++ wr x.kids[0] 8 := by rw [wrI, if_neg h67, if_neg h73, if_neg h77, if_neg h81, if_neg h85, if_pos h97, wrH_at hlt]
                have hBI := hB
                rw [hI] at hBI
                (try simp only [List.length_append, List.length_singleton] at hBI)
                refine p_goJ fun hf => ?_
                refine p_callX ([(g0 + 1, 4)]) (hf := (writeByte q p1 a1 ha1 bs1 33 (by first | omega | (simp only [List.length_append, List.length_singleton, List.length_cons, List.length_nil] at *; omega))).x) (hg := by simp; omega) (hos := by simp <;> omega) (h := fun r o2 h2 hg2 hlw2 hos2 hR2 => ?_)
                obtain ⟨rfl, a2, p2, ha2, hp2, hpg2, hc2, hrw2⟩ := hR2
                have hpp2 : p2 = p ∨ g0 < p2 := by omega
                have hlow : LowQ g0 [(q, 5), (p, 900)] ob0 o2 := LowQ.trans (by (try dsimp only); repeat (first | exact hlow | exact LowQ.refl | refine LowQ.up ?_ (by omega) | refine LowQ.at_ ?_ (by simp))) hlw2 (by first | (dsimp only; omega) | omega) (fun k hk => by simp only [List.mem_cons, List.not_mem_nil, or_false] at hk; rcases hk with rfl | rfl <;> simp <;> omega)
                simp only [valsO, List.cons.injEq, and_true] at hos2
                have hE := (⟨e0, e4, hos2, hc2, hrw2⟩ : _ ∧ _ ∧ _ ∧ _ ∧ _)
                refine p_end ?_
                refine p_drawLast 7 (h := fun hf => ?_)
                refine p_goJ fun hf => ?_
                refine p_idxMap (j := 0) (ht := Try.underlying23) (hi := F.ti25.h) (hij := rfl) (hj := hlt) (h := ?_)
                rw [rxV_cells]
                refine p_goJ ?_
                refine p_lastOp (h := ?_)
                refine p_callX ([(g0 + 1, 4)]) (hf := hrec x.kids[0] (List.getElem_mem hlt) x.op p2 a2 ha2 (bs1 ++ [33]) (by rw [h97]; simp only [List.length_append, List.length_singleton]; omega)) (hg := by simp; omega) (hos := by simp <;> omega) (h := fun r o3 h3 hg3 hlw3 hos3 hR3 => ?_)
                obtain ⟨rfl, a3, p3, ha3, hp3, hpg3, hc3, hrw3⟩ := hR3
                have hpp3 : p3 = p ∨ g0 < p3 := by omega
                have hlow : LowQ g0 [(q, 5), (p, 900)] ob0 o3 := LowQ.trans (by (try dsimp only); repeat (first | exact hlow | exact LowQ.refl | refine LowQ.up ?_ (by omega) | refine LowQ.at_ ?_ (by simp))) hlw3 (by first | (dsimp only; omega) | omega) (fun k hk => by simp only [List.mem_cons, List.not_mem_nil, or_false] at hk; rcases hk with rfl | rfl <;> simp <;> omega)
                simp only [valsO, List.cons.injEq, and_true] at hos3
                have hE := (⟨e0, e4, hos3, hc3, hrw3⟩ : _ ∧ _ ∧ _ ∧ _ ∧ _)
                refine p_goJ ?_
                have hfin : (bs1 ++ ([33] : List UInt8)) ++ wr x.kids[0] x.op = bs1 ++ wrI x := by first | (rw [hI, h97]; done) | (rw [hI, h97]; simp)
                rw [hfin] at hc3 hrw3
                rcases hWD with ⟨hw, rfl, rfl⟩ | ⟨hw, rfl, rfl⟩
                · refine p_retE0 rfl (hK0 _ _ _ (by first | (dsimp only; omega) | omega) (by (try dsimp only); repeat (first | exact hlow | exact LowQ.refl | refine LowQ.up ?_ (by omega) | refine LowQ.at_ ?_ (by simp))) (⟨rfl, a3, p3, ha3, hpp3, by (try dsimp only); omega, by rw [wr_off hw]; exact hc3, by rw [wr_off hw]; exact hrw3⟩))
                · refine p_retDn (p_retD ?_)
                  refine p_leave [] (hf := writeByte q p3 a3 ha3 (bs ++ [40] ++ wrI x) 41 (by have := hBw hw; simp only [List.length_append, List.length_singleton] at this ⊢; omega)) (hrow := by simp only [valsO, hc3, hrw3]) (hg := by simp <;> omega) (hos := by simp) (h := fun r o9 h9 hg9 hlw9 hos9 hR9 => ?_)
                  obtain ⟨rfl, hBd⟩ := hR9
                  have hlow : LowQ g0 [(q, 5), (p, 900)] ob0 o9 := LowQ.trans (by (try dsimp only); repeat (first | exact hlow | exact LowQ.refl | refine LowQ.up ?_ (by omega) | refine LowQ.at_ ?_ (by simp))) hlw9 (by first | (dsimp only; omega) | omega) (fun k hk => by simp only [List.mem_cons, List.not_mem_nil, or_false] at hk; rcases hk with rfl | rfl <;> simp <;> omega)
                  refine p_left (p_retE0' rfl (hK0 _ _ _ (by first | (dsimp only; omega) | omega) (by (try dsimp only); repeat (first | exact hlow | exact LowQ.refl | refine LowQ.up ?_ (by omega) | refine LowQ.at_ ?_ (by simp))) (⟨rfl, by rw [wr_on hw]; simpa using hBd.trans hpp3 (by first | (dsimp only; omega) | omega)⟩)))
              · have h97 : ¬ x.op = 8 := by simpa using hc97
                have hI : wrI x = wrL x.kids x.op true := by rw [wrI, if_neg h67, if_neg h73, if_neg h77, if_neg h81, if_neg h85, if_neg h97]
                have hBI := hB
                rw [hI] at hBI
                refine p_goJ ?_
                refine p_joinK [0, 4] [(g0 + 1, 4)] (fun st => (LowQ g0 [(q, 5), (p, 900)] ob0 st.obj) ∧ (g0 + 1 ≤ st.gen) ∧ (p1 ≤ st.gen) ∧ st.env 7 = .str (sepB x.op) ∧ st.obj q 5 = .cells 88 [a1, .row p1 900 bs1.length] ∧ st.obj p1 900 = .row 5 (bs1.map byV)) ?_ fun e ob gS2 hK hO hI => ?_
                ·
                  refine p_goJ ?_
                  refine p_splitC (s := 47) (ht := fun hc47 => ?_) (hf := fun hc47 => ?_)
                  · refine p_goJ ?_
                    refine p_some ?_
                    refine ⟨⟨(by simp (decide := true) only [valsE, evE, upd, cv, args0, argsFrom, List.length_map, ↓reduceIte, hE] <;> rfl), (by simp (decide := true) only [valsO, updO, upd, true_and, and_true, false_and, and_false, ↓reduceIte, hE] <;> rfl)⟩, (by (try dsimp only); repeat (first | exact hlow | exact LowQ.refl | refine LowQ.up ?_ (by omega) | refine LowQ.at_ ?_ (by simp))), by (try dsimp only); omega, by (try dsimp only); omega, by rw [sepB]; simp_all [upd], oB_, oB_⟩
                  · refine p_goJ ?_
                    refine p_some ?_
                    refine ⟨⟨(by simp (decide := true) only [valsE, evE, upd, cv, args0, argsFrom, List.length_map, ↓reduceIte, hE] <;> rfl), (by simp (decide := true) only [valsO, updO, upd, true_and, and_true, false_and, and_false, ↓reduceIte, hE] <;> rfl)⟩, (by (try dsimp only); repeat (first | exact hlow | exact LowQ.refl | refine LowQ.up ?_ (by omega) | refine LowQ.at_ ?_ (by simp))), by (try dsimp only); omega, by (try dsimp only); omega, by rw [sepB]; simp_all [upd], oB_, oB_⟩
                · obtain ⟨hlow, hgen, hpg1, e7, hq1, hrw1⟩ := hI
                  dsimp only at e7 hq1 hrw1
                  simp only [valsE, List.cons.injEq, and_true] at hK
                  simp only [valsO, List.cons.injEq, and_true] at hO
                  have hE := (⟨hK, hO, e7, hq1, hrw1⟩ : _ ∧ _ ∧ _ ∧ _ ∧ _)
                  dsimp only at hlow hgen hpg1
                  refine p_goJ ?_
                  refine p_loopK [0, 4, 7, 49, 50] [(g0 + 1, 4)] (fun st => ∃ (i : Nat) (a3 : V) (p3 : Nat) (bs3 : List UInt8), (i ≤ x.kids.length) ∧ (BdA q a3) ∧ (p3 = p ∨ g0 < p3) ∧ (p3 ≤ st.gen) ∧ (g0 + 1 ≤ st.gen) ∧ (LowQ g0 [(q, 5), (p, 900)] ob0 st.obj) ∧ (bs3 ++ wrL (x.kids.drop i) x.op (decide (i = 0)) = bs1 ++ wrI x) ∧ st.env 51 = iV i ∧ st.obj q 5 = .cells 88 [a3, .row p3 900 bs3.length] ∧ st.obj p3 900 = .row 5 (bs3.map byV)) (fun st => x.kids.length - (st.env 51).toN) ?_ fun e ob g1 hK hO hI => ?_
                  · exact ⟨0, a1, p1, bs1, by omega, ha1, hpp1, by (try dsimp only); omega, by (try dsimp only); omega, hlow, by rw [hI]; rfl, eV_, oB_, oB_⟩
                  · obtain ⟨i, a3, p3, bs3, hi, ha3, hpp3, hpg3, hgen3, hlow, hbs, e51, hq3, hrw3⟩ := hI
                    dsimp only at e51 hq3 hrw3
                    simp only [valsE, List.cons.injEq, and_true] at hK
                    simp only [valsO, List.cons.injEq, and_true] at hO
                    have hE := (⟨hK, hO, e51, hq3, hrw3⟩ : _ ∧ _ ∧ _ ∧ _ ∧ _)
                    dsimp only at hpg3 hgen3 hlow
                    refine p_goJ ?_
                    refine p_seq ?_
                    refine p_splitC (s := 52) (ht := fun hc52 => ?_) (hf := fun hc52 => ?_)
                    · have hsz : (sepB x.op).data.toList.length = (sepB x.op).size := by rw [Array.length_toList]; rfl
                      have hlt : i < x.kids.length := by simpa using hc52
                      have hdr := drop_at hlt
                      have hlen := congrArg List.length hbs
                      rw [hdr, wrL] at hlen
                      simp only [List.length_append] at hlen
                      rw [hdr, wrL] at hbs
                      refine p_goJ ?_
                      refine p_seq ?_
                      refine p_goJ fun hf => ?_
                      refine p_idxMap (j := i) (ht := Try.underlying23) (hi := F.ti25.h) (hij := rfl) (hj := hlt) (h := ?_)
                      rw [rxV_cells]
                      refine p_goJ ?_
                      refine p_seq ?_
                      refine p_goJ ?_
                      refine p_splitC (s := 57) (ht := fun hc57 => ?_) (hf := fun hc57 => ?_)
                      · have h0 : ¬ i = 0 := by simp at hc57; omega
                        rw [decide_eq_false h0] at hbs hlen
                        simp only [Bool.false_eq_true, if_false, hsz] at hlen hbs
                        refine p_goJ fun hf => ?_
                        refine p_callX ([(g0 + 1, 4), (g1 + 1 + 1, 9)]) (hf := (writeString q p3 a3 ha3 bs3 (sepB x.op) (by omega)).x) (hg := by simp; omega) (hos := by simp <;> omega) (h := fun r o4 h4 hg4 hlw4 hos4 hR4 => ?_)
                        obtain ⟨rfl, a4, p4, ha4, hp4, hpg4, hc4, hrw4⟩ := hR4
                        have hpp4 : p4 = p ∨ g0 < p4 := by omega
                        have hlow : LowQ g0 [(q, 5), (p, 900)] ob0 o4 := LowQ.trans (by (try dsimp only); repeat (first | exact hlow | exact LowQ.refl | refine LowQ.up ?_ (by omega) | refine LowQ.at_ ?_ (by simp))) hlw4 (by first | (dsimp only; omega) | omega) (fun k hk => by simp only [List.mem_cons, List.not_mem_nil, or_false] at hk; rcases hk with rfl | rfl <;> simp <;> omega)
                        simp only [valsO, List.cons.injEq, and_true] at hos4
                        have hE := (⟨hK, e51, hos4, hc4, hrw4⟩ : _ ∧ _ ∧ _ ∧ _ ∧ _)
                        refine p_goJ fun hf => ?_
                        refine p_callX ([(g0 + 1, 4)]) (hf := hrec x.kids[i] (List.getElem_mem hlt) x.op p4 a4 ha4 (bs3 ++ (sepB x.op).data.toList) (by simp only [List.length_append, hsz]; omega)) (hg := by simp; omega) (hos := by simp <;> omega) (h := fun r o5 h5 hg5 hlw5 hos5 hR5 => ?_)
                        obtain ⟨rfl, a5, p5, ha5, hp5, hpg5, hc5, hrw5⟩ := hR5
                        have hpp5 : p5 = p ∨ g0 < p5 := by omega
                        have hlow : LowQ g0 [(q, 5), (p, 900)] ob0 o5 := LowQ.trans (by (try dsimp only); repeat (first | exact hlow | exact LowQ.refl | refine LowQ.up ?_ (by omega) | refine LowQ.at_ ?_ (by simp))) hlw5 (by first | (dsimp only; omega) | omega) (fun k hk => by simp only [List.mem_cons, List.not_mem_nil, or_false] at hk; rcases hk with rfl | rfl <;> simp <;> omega)
                        simp only [valsO, List.cons.injEq, and_true] at hos5
                        have hE := (⟨hK, e51, hos5, hc5, hrw5⟩ : _ ∧ _ ∧ _ ∧ _ ∧ _)
                        refine p_goJ fun hf => ?_
                        refine p_add (r := ((i + 1 : Nat) : Int)) (hr := (by first | omega | (simp only [decide_eq_true_eq, decide_eq_false_iff_not, Bool.or_eq_false_iff, Bool.and_eq_true, Bool.not_eq_true', Bool.not_eq_false'] at *; omega))) (hb := (by first | omega | (simp only [decide_eq_true_eq, decide_eq_false_iff_not, Bool.or_eq_false_iff, Bool.and_eq_true, Bool.not_eq_true', Bool.not_eq_false'] at *; omega))) (h := ?_)
                        refine p_goJ ?_
                        refine p_some ?_
                        refine ⟨⟨(by simp (decide := true) only [valsE, evE, upd, cv, args0, argsFrom, List.length_map, ↓reduceIte, hE] <;> rfl), (by simp (decide := true) only [valsO, updO, upd, true_and, and_true, false_and, and_false, ↓reduceIte, hE] <;> rfl)⟩, ⟨i + 1, a5, p5, bs3 ++ (sepB x.op).data.toList ++ wr x.kids[i] x.op, hlt, ha5, hpp5, by (try dsimp only); omega, by (try dsimp only); omega, (by (try dsimp only); repeat (first | exact hlow | exact LowQ.refl | refine LowQ.up ?_ (by omega) | refine LowQ.at_ ?_ (by simp))), by rw [decide_eq_false (by omega : ¬ i + 1 = 0), ← hbs]; simp [List.append_assoc], eV_, oB_, oB_⟩, ?_⟩
                        simp (decide := true) only [upd, e51, V.toN, ↓reduceIte]; omega
                      · have h0 : i = 0 := by simp at hc57; omega
                        rw [decide_eq_true h0] at hbs hlen
                        simp only [if_true, List.nil_append, List.length_nil] at hlen hbs
                        refine p_goJ fun hf => ?_
                        refine p_callX ([(g0 + 1, 4)]) (hf := hrec x.kids[i] (List.getElem_mem hlt) x.op p3 a3 ha3 bs3 (by omega)) (hg := by simp; omega) (hos := by simp <;> omega) (h := fun r o5 h5 hg5 hlw5 hos5 hR5 => ?_)
                        obtain ⟨rfl, a5, p5, ha5, hp5, hpg5, hc5, hrw5⟩ := hR5
                        have hpp5 : p5 = p ∨ g0 < p5 := by omega
                        have hlow : LowQ g0 [(q, 5), (p, 900)] ob0 o5 := LowQ.trans (by (try dsimp only); repeat (first | exact hlow | exact LowQ.refl | refine LowQ.up ?_ (by omega) | refine LowQ.at_ ?_ (by simp))) hlw5 (by first | (dsimp only; omega) | omega) (fun k hk => by simp only [List.mem_cons, List.not_mem_nil, or_false] at hk; rcases hk with rfl | rfl <;> simp <;> omega)
                        simp only [valsO, List.cons.injEq, and_true] at hos5
                        have hE := (⟨hK, e51, hos5, hc5, hrw5⟩ : _ ∧ _ ∧ _ ∧ _ ∧ _)
                        refine p_goJ fun hf => ?_
                        refine p_add (r := ((i + 1 : Nat) : Int)) (hr := (by first | omega | (simp only [decide_eq_true_eq, decide_eq_false_iff_not, Bool.or_eq_false_iff, Bool.and_eq_true, Bool.not_eq_true', Bool.not_eq_false'] at *; omega))) (hb := (by first | omega | (simp only [decide_eq_true_eq, decide_eq_false_iff_not, Bool.or_eq_false_iff, Bool.and_eq_true, Bool.not_eq_true', Bool.not_eq_false'] at *; omega))) (h := ?_)
                        refine p_goJ ?_
                        refine p_some ?_
                        refine ⟨⟨(by simp (decide := true) only [valsE, evE, upd, cv, args0, argsFrom, List.length_map, ↓reduceIte, hE] <;> rfl), (by simp (decide := true) only [valsO, updO, upd, true_and, and_true, false_and, and_false, ↓reduceIte, hE] <;> rfl)⟩, ⟨i + 1, a5, p5, bs3 ++ wr x.kids[i] x.op, hlt, ha5, hpp5, by (try dsimp only); omega, by (try dsimp only); omega, (by (try dsimp only); repeat (first | exact hlow | exact LowQ.refl | refine LowQ.up ?_ (by omega) | refine LowQ.at_ ?_ (by simp))), by rw [decide_eq_false (by omega : ¬ i + 1 = 0), ← hbs]; simp [List.append_assoc], eV_, oB_, oB_⟩, ?_⟩
                        simp (decide := true) only [upd, e51, V.toN, ↓reduceIte]; omega
                    · have hge : ¬ i < x.kids.length := by simpa using hc52
                      rw [drop_end hi hge, wrL, List.append_nil] at hbs
                      refine p_goJ ?_
                      have hfin : bs3 = bs1 ++ wrI x := hbs
                      rw [hfin] at hq3 hrw3
                      rcases hWD with ⟨hw, rfl, rfl⟩ | ⟨hw, rfl, rfl⟩
                      · refine p_retE0 rfl (hK0 _ _ _ (by first | (dsimp only; omega) | omega) (by (try dsimp only); repeat (first | exact hlow | exact LowQ.refl | refine LowQ.up ?_ (by omega) | refine LowQ.at_ ?_ (by simp))) (⟨rfl, a3, p3, ha3, hpp3, by (try dsimp only); omega, by rw [wr_off hw]; exact hq3, by rw [wr_off hw]; exact hrw3⟩))
                      · refine p_retDn (p_retD ?_)
                        refine p_leave [] (hf := writeByte q p3 a3 ha3 (bs ++ [40] ++ wrI x) 41 (by have := hBw hw; simp only [List.length_append, List.length_singleton] at this ⊢; omega)) (hrow := by simp only [valsO, hq3, hrw3]) (hg := by simp <;> omega) (hos := by simp) (h := fun r o9 h9 hg9 hlw9 hos9 hR9 => ?_)
                        obtain ⟨rfl, hBd⟩ := hR9
                        have hlow : LowQ g0 [(q, 5), (p, 900)] ob0 o9 := LowQ.trans (by (try dsimp only); repeat (first | exact hlow | exact LowQ.refl | refine LowQ.up ?_ (by omega) | refine LowQ.at_ ?_ (by simp))) hlw9 (by first | (dsimp only; omega) | omega) (fun k hk => by simp only [List.mem_cons, List.not_mem_nil, or_false] at hk; rcases hk with rfl | rfl <;> simp <;> omega)
                        refine p_left (p_retE0' rfl (hK0 _ _ _ (by first | (dsimp only; omega) | omega) (by (try dsimp only); repeat (first | exact hlow | exact LowQ.refl | refine LowQ.up ?_ (by omega) | refine LowQ.at_ ?_ (by simp))) (⟨rfl, by rw [wr_on hw]; simpa using hBd.trans hpp3 (by first | (dsimp only; omega) | omega)⟩)))

theorem writeP (q : Nat) (r : Rx) (hs : r.Sm) (hr : rightB r = true) : ∀ (outer : Int) (p : Nat) (a : V), BdA q a → ∀ bs : List UInt8, bs.length + (wr r outer).length ≤ 140737488355327 → FnX Try.prog 37 [.ptr q 5 0, rxA r, iV outer] [(q, 5), (p, 900)] [.cells 88 [a, .row p 900 bs.length], .row 5 (bs.map byV)] (fun g r' o g' => r' = .tup [] ∧ Bd q p g (bs ++ wr r outer) o g') := by
  induction r using Rx.ind with
  | _ r ih =>
    intro outer p a ha bs hb
    have h1 := hr
    rw [rightB_eq, Bool.and_eq_true, List.all_eq_true] at h1
    refine write_gen q p r outer a ha bs hb hs.len (fun ho => ?_) fun k hk => ih k hk (hs.kids k hk) (h1.1 k hk)
    have h2 := h1.2
    rw [nodeB, if_neg (by omega), if_neg (by omega), if_pos ho] at h2
    simp at h2; omega
theorem Rx.Ok.szL_lt {r : Rx} (h : r.Ok) : r.sz ≤ 500 := h.sz
theorem name_le {s : ByteArray} (h : nameB s = true) : s.data.toList.length ≤ 64 ∧ 0 < s.data.toList.length := by
  unfold nameB at h
  simp only [Bool.and_eq_true, Bool.not_eq_true', Bool.or_eq_false_iff, decide_eq_false_iff_not] at h
  have h1 : s.data.toList.length = s.size := by rw [Array.length_toList]; rfl
  have h2 := size_pos h.1.1.1
  omega
theorem wr_len (r : Rx) (hr : rightB r = true) : ∀ o, 0 < (wr r o).length ∧ (wr r o).length + 3 ≤ 70 * r.sz := by
  induction r using Rx.ind with
  | _ r ih =>
    intro o
    rw [rightB_eq, Bool.and_eq_true, List.all_eq_true] at hr
    obtain ⟨h1, h2⟩ := hr
    have key : ∀ (l : List Rx) (op : Int) (f : Bool), (∀ k ∈ l, ∀ o, 0 < (wr k o).length ∧ (wr k o).length + 3 ≤ 70 * k.sz) → (wrL l op f).length ≤ 70 * Rx.szL l ∧ (l ≠ [] → 0 < (wrL l op f).length) := by
      intro l op
      induction l with
      | nil => intro f _; rw [wrL, Rx.szL]; simp
      | cons k l ihl =>
        intro f hk
        have h3 := hk k (List.mem_cons_self ..) op
        have h4 := (ihl false fun k' hk' => hk k' (List.mem_cons_of_mem _ hk')).1
        rw [wrL, Rx.szL]
        have h5 : (if f = true then ([] : List UInt8) else (sepB op).data.toList).length ≤ 3 := by
          unfold sepB; split <;> (first | (simp; done) | (split <;> simp))
        simp only [List.length_append]
        exact ⟨by omega, fun _ => by omega⟩
    have kid : ∀ o, 0 < r.kids.length → 0 < (wrH r.kids o).length ∧ (wrH r.kids o).length + 3 ≤ 70 * Rx.szL r.kids := by
      intro o hl
      rw [wrH_at hl]
      have h3 := ih _ (List.getElem_mem hl) (h1 _ (List.getElem_mem hl)) o
      have h4 := Rx.szL_mem (List.getElem_mem hl)
      omega
    have hk := key r.kids r.op true fun k hk => ih k hk (h1 k hk)
    have hI : 0 < (wrI r).length ∧ (wrI r).length + 5 ≤ 70 * r.sz := by
      rw [r.sz_eq]
      unfold nodeB at h2
      unfold wrI
      split at h2
      · rename_i h3
        rw [if_pos h3]
        simp only [Bool.and_eq_true] at h2
        have := name_le h2.1
        omega
      · split at h2
        · rename_i h3 h4
          rcases h4 with h4 | h4 | h4 <;> simp [h4] <;> omega
        · split at h2
          · rename_i h3 h4 h5
            have h6 : 0 < r.kids.length := by simp at h2; omega
            rcases h5 with h5 | h5
            · have := kid 7 h6
              simp only [h5, List.length_append, List.length_singleton]; simp; omega
            · have := kid 8 h6
              simp only [h5, List.length_append, List.length_singleton]; simp; omega
          · split at h2
            · rename_i h3 h4 h5 h6
              have h7 : r.kids ≠ [] := by intro h; rw [h] at h2; simp at h2
              rcases h6 with h6 | h6 <;> simp [h6] <;> (rw [h6] at hk; have := hk.2 h7; omega)
            · cases h2
    rw [wr_eq]
    split <;> simp <;> omega
def printB (r : Rx) : ByteArray := if errE r = 0 then ⟨(wr r 0).toArray⟩ else ⟨#[]⟩

theorem printP (x : Rx) (hs : x.Sm) : FnC Try.prog 16 [rxA x] (fun r => r = .tup [.str (printB x), iV (errE x)]) := by
  refine FnC.of (fn := Try.f16) ⟨Try.func16, by kernel_rfl, rfl⟩ Try.ntmps16 (by simp) fun w0 S0 => ?_
  refine p_go fun hf => ?_
  refine p_call (hx := rfl) (hb := ⟨Try.func23, by kernel_rfl, rfl⟩) (hf := checkP x hs) (h := ?_)
  refine p_go ?_
  refine p_splitC (s := 9) (ht := fun hc9 => ?_) (hf := fun hc9 => ?_)
  · refine p_go ?_
    refine p_r2 (hp := by rw [printB, if_neg (by simpa using hc9)])
  · have hok := errE_ok.1 (show errE x = 0 by simpa using hc9)
    have hlen := wr_len x hok.right 0
    have hsz := hok.sz
    refine p_condF (h := ?_)
    refine p_skip ?_
    refine p_seq (p_region fun hf => ?_)
    refine p_alloc (hi := F.ti88.h) (h := ?_)
    refine p_end ?_
    refine p_seq (p_region fun hf => ?_)
    (first | refine p_loadA (ht := F.agg25.h) (hi := F.ti25.h) (h := ?_) | refine p_loadRefA (ht := F.agg25.h) (hi := F.ti25.h) (h := ?_))
    refine p_bare ?_
    refine p_nilCell (el := 5) (g1 := 0 + 1 + 1 + 1 + 1) (d1 := 5) (i := 1) 900 (h := ?_)
    refine p_lastOp (h := ?_)
    refine p_callX ([]) (hf := writeP (0 + 1 + 1 + 1 + 1) x hs hok.right 0 (0 + 1 + 1 + 1 + 1 + 1) _ (.inl rfl) [] (by simp; omega)) (hg := by simp) (hos := by simp) (h := fun r o1 h1 hg1 hlw1 hos1 hR1 => ?_)
    obtain ⟨rfl, a1, p1, ha1, hp1, hpg1, hc1, hrw1⟩ := hR1
    rw [List.nil_append] at hc1 hrw1
    have hE := (⟨hc1, hrw1⟩ : _ ∧ _)
    refine p_go fun hf => ?_
    refine p_callX ([]) (hf := (bString (0 + 1 + 1 + 1 + 1) p1 a1 (wr x 0) (by intro h; rw [h] at hlen; simp at hlen)).x) (hg := by simp; omega) (hos := by simp) (h := fun r o2 h2 hg2 hlw2 hos2 hR2 => ?_)
    obtain rfl := hR2
    refine p_go ?_
    refine p_r2 (hp := by rw [printB, if_pos (by simpa using hc9), show errE x = 0 by simpa using hc9])

end Go.Proofs.Ytjdhkopjigijfaa
