/-
  The matcher: its nodes by numbers.
-/
import Derived.Test.YtjdhkopjigijfaaXbc
set_option linter.unusedSimpArgs false
set_option linter.unusedVariables false
set_option maxHeartbeats 4000000
namespace Go.Proofs.Ytjdhkopjigijfaa
open Go.RowKit
attribute [local irreducible] Wk Tr
mutual
def pre : Rx → List Rx
  | .mk o n ks => .mk o n ks :: preL ks
def preL : List Rx → List Rx
  | [] => []
  | k :: ks => pre k ++ preL ks
end
/-- The numbers of some nodes, one behind the other. -/
def idxs : List Rx → Nat → List Nat
  | [], _ => []
  | k :: ks, b => b :: idxs ks (b + k.sz)
mutual
def knB : Rx → Nat → List (List Nat)
  | .mk _ _ ks, b => idxs ks (b + 1) :: knL ks (b + 1)
def knL : List Rx → Nat → List (List Nat)
  | [], _ => []
  | k :: ks, b => knB k b ++ knL ks (b + k.sz)
end
theorem pre_eq (r : Rx) : pre r = r :: preL r.kids := by cases r; rw [pre]; rfl
theorem knB_eq (r : Rx) (b : Nat) : knB r b = idxs r.kids (b + 1) :: knL r.kids (b + 1) := by cases r; rw [knB]; rfl
theorem preL_snoc : ∀ (l : List Rx) (k : Rx), preL (l ++ [k]) = preL l ++ pre k
  | [], k => by simp [preL]
  | a :: l, k => by rw [List.cons_append, preL, preL, preL_snoc l k, List.append_assoc]
theorem szL_snoc : ∀ (l : List Rx) (k : Rx), Rx.szL (l ++ [k]) = Rx.szL l + k.sz
  | [], k => by simp [Rx.szL]
  | a :: l, k => by rw [List.cons_append, Rx.szL, Rx.szL, szL_snoc l k, Nat.add_assoc]
theorem idxs_snoc : ∀ (l : List Rx) (k : Rx) (b : Nat), idxs (l ++ [k]) b = idxs l b ++ [b + Rx.szL l]
  | [], k, b => by simp [idxs, Rx.szL]
  | a :: l, k, b => by rw [List.cons_append, idxs, idxs, idxs_snoc l k, Rx.szL, List.cons_append, Nat.add_assoc]
theorem knL_snoc : ∀ (l : List Rx) (k : Rx) (b : Nat), knL (l ++ [k]) b = knL l b ++ knB k (b + Rx.szL l)
  | [], k, b => by simp [knL, Rx.szL]
  | a :: l, k, b => by rw [List.cons_append, knL, knL, knL_snoc l k, Rx.szL, List.append_assoc, Nat.add_assoc]
theorem idxs_len : ∀ (l : List Rx) (b : Nat), (idxs l b).length = l.length
  | [], _ => rfl
  | a :: l, b => by rw [idxs, List.length_cons, idxs_len l, List.length_cons]
theorem pre_len (r : Rx) : (pre r).length = r.sz := by
  induction r using Rx.ind with
  | _ r ih =>
    rw [pre_eq, r.sz_eq, List.length_cons, Nat.add_comm]
    congr 1
    revert ih
    generalize r.kids = l
    intro ih
    induction l with
    | nil => rfl
    | cons a l ihl => rw [preL, Rx.szL, List.length_append, ih a (List.mem_cons_self ..), ihl fun k hk => ih k (List.mem_cons_of_mem _ hk)]
theorem preL_len (l : List Rx) : (preL l).length = Rx.szL l := by
  induction l with
  | nil => rfl
  | cons a l ih => rw [preL, Rx.szL, List.length_append, ih, pre_len]
theorem knB_len (r : Rx) : ∀ b, (knB r b).length = r.sz := by
  induction r using Rx.ind with
  | _ r ih =>
    intro b
    rw [knB_eq, r.sz_eq, List.length_cons, Nat.add_comm]
    congr 1
    have key : ∀ (l : List Rx) (b : Nat), (∀ k ∈ l, ∀ b, (knB k b).length = k.sz) → (knL l b).length = Rx.szL l := by
      intro l
      induction l with
      | nil => intro b _; rfl
      | cons a l ihl => intro b hl; rw [knL, Rx.szL, List.length_append, hl a (List.mem_cons_self ..), ihl _ fun k hk => hl k (List.mem_cons_of_mem _ hk)]
    exact key _ _ ih
theorem knL_len (l : List Rx) : ∀ b, (knL l b).length = Rx.szL l := by
  induction l with
  | nil => intro b; rfl
  | cons a l ih => intro b; rw [knL, Rx.szL, List.length_append, ih, knB_len]
theorem take_step {l : List Rx} {i : Nat} (h : i < l.length) : l.take (i + 1) = l.take i ++ [l[i]] := by rw [List.take_add_one, List.getElem?_eq_getElem h]; rfl
theorem szL_take {l : List Rx} {i : Nat} (h : i < l.length) : Rx.szL (l.take i) + l[i].sz ≤ Rx.szL l := by
  have h1 : Rx.szL (l.take (i + 1)) ≤ Rx.szL l := by
    clear h
    generalize i + 1 = j
    induction l generalizing j with
    | nil => simp
    | cons a l ih => cases j with
      | zero => simp [Rx.szL]
      | succ j => rw [List.take_succ_cons, Rx.szL, Rx.szL]; have := ih j; omega
  rw [take_step h, szL_snoc] at h1; exact h1
/-- A row of numbers, only read. -/
abbrev inV (n : Nat) : V := iV (n : Int)
abbrev knV (l : List Nat) : V := .sl 3 (l.map inV)

theorem kat {kv A B : List V} {v : V} {n : Nat} (h : n = kv.length) : (kv ++ [v] ++ A ++ B)[n]? = some v := by
  subst h; simp [List.append_assoc]
theorem kset {kv A B : List V} {v v1 v2 : V} {n : Nat} (h : n = kv.length) : kv ++ [v2] ++ (A ++ B) = ((kv ++ [v] ++ A ++ B).set n v1).set n v2 := by
  subst h; simp [List.append_assoc]
theorem kend {kv A : List V} {v v1 : V} {n : Nat} (h : n = kv.length) : (kv ++ [v] ++ A).set n v1 = kv ++ [v1] ++ A := by
  subst h; simp [List.append_assoc]
theorem st_nodes {nd : List Rx} {x : Rx} {z : V} : (nd ++ [x] ++ preL (x.kids.take 0)).map rxV = (nd.map rxV ++ [z]).set nd.length (rxA x) := by
  have h : nd.length = (nd.map rxV).length := by simp
  rw [h]; simp [preL, rxV_eq]
theorem st_kids {kv : List V} {x : Rx} {n g : Nat} {m : Nat} (h : n = kv.length) : kv ++ [V.row g 900 0] ++ (knL (x.kids.take 0) m).map knV = (kv ++ [V.nil]).set n (V.row g 900 0) := by
  subst h; simp [knL]

theorem number_gen (q : Nat) (wV mV : V) (hwV : wV.leaf = true) (hmV : mV.leaf = true) (x : Rx) (hs : x.kids.length ≤ 17592186044416) (hrec : ∀ k ∈ x.kids, ∀ (a b : Nat) (nd : List Rx) (kv : List V), nd.length = kv.length → nd.length + k.sz ≤ 1000000 → FnX Try.prog 33 [.ptr q 19 0, rxA k] [(q, 19), (a, 901), (b, 902)] [.cells 77 [wV, .row a 901 (nd.length), .row b 902 (nd.length), mV], .row 25 (nd.map rxV), .rv 79 (kv)] (fun g v o g' => v = inV nd.length ∧ ∃ a' b', (a' = a ∨ g < a') ∧ a' ≤ g' ∧ (b' = b ∨ g < b') ∧ b' ≤ g' ∧ o q 19 = .cells 77 [wV, .row a' 901 (nd.length + k.sz), .row b' 902 (nd.length + k.sz), mV] ∧ o a' 901 = .row 25 ((nd ++ pre k).map rxV) ∧ o b' 902 = .rv 79 (kv ++ (knB k nd.length).map knV))) (a b : Nat) (nd : List Rx) (kv : List V) (hlen : nd.length = kv.length) (hsz : nd.length + x.sz ≤ 1000000) : FnX Try.prog 33 [.ptr q 19 0, rxA x] [(q, 19), (a, 901), (b, 902)] [.cells 77 [wV, .row a 901 (nd.length), .row b 902 (nd.length), mV], .row 25 (nd.map rxV), .rv 79 (kv)] (fun g v o g' => v = inV nd.length ∧ ∃ a' b', (a' = a ∨ g < a') ∧ a' ≤ g' ∧ (b' = b ∨ g < b') ∧ b' ≤ g' ∧ o q 19 = .cells 77 [wV, .row a' 901 (nd.length + x.sz), .row b' 902 (nd.length + x.sz), mV] ∧ o a' 901 = .row 25 ((nd ++ pre x).map rxV) ∧ o b' 902 = .rv 79 (kv ++ (knB x nd.length).map knV)) := by
  refine FnX.of (fn := Try.f33) ⟨Try.func33, by kernel_rfl, rfl⟩ Try.ntmps33 (by simp) fun w0 S0 l ob0 g0 K hrow hgl hK0 => ?_
  simp only [valsO, List.cons.injEq, and_true] at hrow
  simp only [List.mem_cons, List.not_mem_nil, or_false, forall_eq_or_imp, forall_eq, forall_const] at hgl
  have hE := hrow
  refine p_go fun hf => ?_
  refine p_nilChk (h := ?_)
  refine p_go fun hf => ?_
  refine p_nilChk (h := ?_)
  refine p_go fun hf => ?_
  refine p_buildSliceC [.agg [iV 0, .str ⟨#[]⟩, .nil]] (ht := Try.underlying23) (hi := F.ti25.h) (h := ?_)
  refine p_append (ht := Try.underlying23) (hi := F.ti25.h) (u := .row _ 20 1) (ys := [.agg [iV 0, .str ⟨#[]⟩, .nil]]) (hnl := by simp) (hy := ⟨.inl oB_, rfl⟩) (k := nd.length + 1) (hm := by simp) (hlim := by omega) (h := ?_)
  refine p_idxRowN (nd.length) (ht := Try.underlying23) (hi := F.ti25.h) (hij := by simp) (hlt := by simp) (h := ?_)
  refine p_storeRow (hi := F.ti25.h) (hc := TI.cells F.ti25.h) (hlt := by simp) (hl := .inr ⟨_, rfl⟩) (hro := by exact rfl) (hsz := by exact rfl) (h := ?_)
  refine p_nilChk (h := ?_)
  refine p_go fun hf => ?_
  refine p_nilChk (h := ?_)
  refine p_go fun hf => ?_
  refine p_buildSlice (ht := Try.underlying75) (hi := F.ti79.h) (h := ?_)
  refine p_rvAppend (ht := Try.underlying75) (hi := F.ti79.h) (u := .row _ 30 1) (ys := [.nil]) (hnl := hlen) (hy := .inr ⟨⟨.inl oB_, rfl⟩, rfl⟩) (k := nd.length + 1) (hm := by simp [hlen]) (hlim := by omega) (h := ?_)
  refine p_nilChk (h := ?_)
  (first | refine p_fieldPtr (hf := F.fld77_2.h) (h := ?_) | refine p_fieldRef (hf := F.fld77_2.h) (h := ?_) | refine p_fieldRow (hf := F.fld77_2.h) (h := ?_))
  refine p_store1 F.ti75.h (h := ?_)
  refine p_end ?_
  refine p_seq ?_
  refine p_seq (p_region fun hf => ?_)
  refine p_bare ?_
  refine p_renCell (g1 := q) (d1 := 19) (i := 1) 901 (h := ?_)
  refine p_renC (g1 := q) (d1 := 19) (i := 2) (g2 := g0 + 1 + 1 + 1 + 1) (d2 := 31) 902 oB_ rfl oB_ (by simp) rfl (by intro h; cases h) (by repeat (first | exact hf _ | with_reducible rfl | rw [updO_off (by decide)])) ?_
  refine p_nilRv (g1 := g0 + 1 + 1 + 1 + 1 + 1) (d1 := 902) (i := nd.length) (el := 3) 900 oB_ (by simp [hlen]) (by repeat (first | exact hf _ | with_reducible rfl | rw [updO_off (by decide)])) ?_
  simp only [V.reKey, and_self, if_true, List.set_cons_succ, List.set_cons_zero]
  refine p_lastOp (h := ?_)
  refine p_go ?_
  refine p_loopK [0, 5, 35, 36] [(g0 + 1, 3)] (fun st => ∃ (i a1 b1 c1 : Nat), (i ≤ x.kids.length) ∧ (a1 = a ∨ g0 < a1) ∧ (a1 ≤ st.gen) ∧ (b1 = b ∨ g0 < b1) ∧ (b1 ≤ st.gen) ∧ (g0 + 1 < c1) ∧ (c1 ≤ st.gen) ∧ (g0 + 1 ≤ st.gen) ∧ (LowQ g0 [(q, 19), (a, 901), (b, 902)] ob0 st.obj) ∧ st.env 37 = inV i ∧ st.obj q 19 = .cells 77 [wV, .row a1 901 ((nd ++ [x] ++ preL (x.kids.take i)).length), .row b1 902 ((nd ++ [x] ++ preL (x.kids.take i)).length), mV] ∧ st.obj a1 901 = .row 25 ((nd ++ [x] ++ preL (x.kids.take i)).map rxV) ∧ st.obj b1 902 = .rv 79 (kv ++ [V.row c1 900 i] ++ (knL (x.kids.take i) (nd.length + 1)).map knV) ∧ st.obj c1 900 = .row 3 ((idxs (x.kids.take i) (nd.length + 1)).map inV)) (fun st => x.kids.length - (st.env 37).toN) ?_ fun e ob g1 hK hO hI => ?_
  · exact ⟨0, _, _, _, by omega, .inr (by (try dsimp only); omega), Nat.le_refl _, .inr (by (try dsimp only); omega), Nat.le_refl _, by (try dsimp only); omega, Nat.le_refl _, by (try dsimp only); omega, (by (try dsimp only); repeat (first | exact hlow | exact LowQ.refl | refine LowQ.or_ ?_ (by assumption) | refine LowQ.up ?_ (by omega) | refine LowQ.at_ ?_ (by simp))), eV_, by simp only [List.take_zero, preL, List.append_nil, List.length_append, List.length_singleton]; exact oB_, by rw [st_nodes]; exact oB_, by rw [st_kids hlen]; exact oB_, by simp only [List.take_zero, idxs, List.map_nil]; exact oB_⟩
  · obtain ⟨i, a1, b1, c1, hi, ha1, hag1, hb1, hbg1, hc1, hcg1, hgen1, hlow, e37, hcl, hnr, hkr, hrow1⟩ := hI
    dsimp only at e37 hcl hnr hkr hrow1
    simp only [valsE, List.cons.injEq, and_true] at hK
    simp only [valsO, List.cons.injEq, and_true] at hO
    have hE := (⟨hK, hO, e37, hcl, hnr, hkr, hrow1⟩ : _ ∧ _ ∧ _ ∧ _ ∧ _ ∧ _ ∧ _)
    dsimp only at hag1 hbg1 hcg1 hgen1 hlow
    have hndl : (nd ++ [x] ++ preL (x.kids.take i)).length = nd.length + 1 + Rx.szL (x.kids.take i) := by simp only [List.length_append, List.length_singleton, preL_len]
    have hlen1 : (nd ++ [x] ++ preL (x.kids.take i)).length = (kv ++ [V.row c1 900 i] ++ (knL (x.kids.take i) (nd.length + 1)).map knV).length := by rw [hndl]; simp only [List.length_append, List.length_singleton, List.length_map, knL_len]; omega
    refine p_go ?_
    refine p_splitC (s := 38) (ht := fun hc38 => ?_) (hf := fun hc38 => ?_)
    · have hlt : i < x.kids.length := by simpa using hc38
      have hszt := szL_take hlt
      have hxs := x.sz_eq
      refine p_go fun hf => ?_
      refine p_idxMap (j := i) (ht := Try.underlying23) (hi := F.ti25.h) (hij := rfl) (hj := hlt) (h := ?_)
      rw [rxV_cells]
      refine p_go fun hf => ?_
      refine p_callX ([(g0 + 1, 3), (c1, 900)]) (hf := hrec x.kids[i] (List.getElem_mem hlt) a1 b1 _ _ hlen1 (by rw [hndl]; omega)) (hg := by simp; omega) (hos := by simp <;> omega) (h := fun r o5 h5 hg5 hlw5 hos5 hR5 => ?_)
      obtain ⟨rfl, a5, b5, ha5, hag5, hb5, hbg5, hc5, hn5, hk5⟩ := hR5
      have hlow : LowQ g0 [(q, 19), (a, 901), (b, 902)] ob0 o5 := LowQ.trans (by (try dsimp only); repeat (first | exact hlow | exact LowQ.refl | refine LowQ.or_ ?_ (by assumption) | refine LowQ.up ?_ (by omega) | refine LowQ.at_ ?_ (by simp))) hlw5 (by first | (dsimp only; omega) | omega) (fun k hk => by simp only [List.mem_cons, List.not_mem_nil, or_false] at hk; rcases hk with rfl | rfl | rfl <;> simp <;> omega)
      simp only [valsO, List.cons.injEq, and_true] at hos5
      have hkat := kat (A := (knL (x.kids.take i) (nd.length + 1)).map knV) (B := (knB x.kids[i] (nd ++ [x] ++ preL (x.kids.take i)).length).map knV) (v := .row c1 900 i) hlen
      have hE := (⟨hK, e37, hos5, hc5, hn5, hk5⟩ : _ ∧ _ ∧ _ ∧ _ ∧ _ ∧ _)
      refine p_go fun hf => ?_
      refine p_nilChk (h := ?_)
      refine p_go fun hf => ?_
      refine p_nilChk (h := ?_)
      refine p_go fun hf => ?_
      refine p_rvIdx (nd.length) (ht := Try.underlying75) (hi := F.ti79.h) (hlt := by rw [hndl]; omega) (h := ?_)
      refine p_rvLoad (ht := F.leaf79.h) (hv := hkat) (h := ?_)
      refine p_go fun hf => ?_
      refine p_buildSlice (ht := Try.underlying79) (hi := F.ti3.h) (h := ?_)
      refine p_append (ht := Try.underlying79) (hi := F.ti3.h) (u := .row _ 57 1) (ys := [inV (nd ++ [x] ++ preL (x.kids.take i)).length]) (hnl := by simp [idxs_len]; omega) (hy := ⟨.inl oB_, rfl⟩) (k := i + 1) (hm := by simp [idxs_len]; omega) (hlim := by omega) (h := ?_)
      refine p_rvIdx (nd.length) (ht := Try.underlying75) (hi := F.ti79.h) (hlt := by rw [hndl]; omega) (h := ?_)
      refine p_rvStore (hi := F.ti79.h) (hlt := (by simp only [List.length_append, List.length_singleton, List.length_map, knL_len, knB_len]; omega)) (h := ?_)
      refine p_endD ?_
      refine p_region fun hf => ?_
      refine p_bare ?_
      refine p_renRv (g1 := b5) (d1 := 902) (i := nd.length) (n := i + 1) 900 oB_ (by rw [List.getElem?_set_self (by simp only [List.length_append, List.length_singleton, List.length_map, knL_len, knB_len]; omega)]) oB_ (by simp) rfl (by intro h; cases h) (by repeat (first | exact hf _ | with_reducible rfl | rw [updO_off (by decide)])) ?_
      refine p_lastOp (h := ?_)
      refine p_add (r := ((i + 1 : Nat) : Int)) (hr := (by first | omega | (simp only [decide_eq_true_eq, decide_eq_false_iff_not, Bool.or_eq_false_iff, Bool.and_eq_true, Bool.not_eq_true', Bool.not_eq_false'] at *; omega))) (hb := (by first | omega | (simp only [decide_eq_true_eq, decide_eq_false_iff_not, Bool.or_eq_false_iff, Bool.and_eq_true, Bool.not_eq_true', Bool.not_eq_false'] at *; omega))) (h := ?_)
      refine p_go ?_
      refine p_some ?_
      have hndl' := hndl
      have hm5 : (b5, 902) ∈ [(q, 19), (a, 901), (b, 902)] ∨ g0 < b5 := (show b5 = b ∨ g0 < b5 by omega).imp (by rintro rfl; simp) id
      have hn1 : (nd ++ [x] ++ preL (x.kids.take (i + 1))) = (nd ++ [x] ++ preL (x.kids.take i)) ++ pre x.kids[i] := by rw [take_step hlt, preL_snoc, ← List.append_assoc]
      have hn2 : (nd ++ [x] ++ preL (x.kids.take (i + 1))).length = (nd ++ [x] ++ preL (x.kids.take i)).length + x.kids[i].sz := by rw [hn1, List.length_append, pre_len]
      refine ⟨⟨(by simp (decide := true) only [valsE, evE, upd, cv, args0, argsFrom, List.length_map, ↓reduceIte, hE] <;> rfl), (by simp (decide := true) only [valsO, updO, upd, true_and, and_true, false_and, and_false, ↓reduceIte, hE] <;> rfl)⟩, ⟨i + 1, a5, b5, _, hlt, by omega, by (try dsimp only); omega, by omega, by (try dsimp only); omega, by (try dsimp only); omega, Nat.le_refl _, by (try dsimp only); omega, (by (try dsimp only); repeat (first | exact hlow | exact LowQ.refl | refine LowQ.or_ ?_ (by assumption) | refine LowQ.up ?_ (by omega) | refine LowQ.at_ ?_ (by simp))), eV_, by rw [hn2]; exact oB_, by rw [hn1]; exact oB_, by rw [take_step hlt, knL_snoc, List.map_append, ← hndl', kset hlen]; exact oB_, by rw [take_step hlt, idxs_snoc, List.map_append, ← hndl]; exact oB_⟩, ?_⟩
      simp (decide := true) only [upd, e37, V.toN, ↓reduceIte]; omega
    · have hge : ¬ i < x.kids.length := by simpa using hc38
      have htk : x.kids.take i = x.kids := List.take_of_length_le (by omega)
      rw [htk] at hcl hnr hkr hrow1 hndl
      have hm5 : (b1, 902) ∈ [(q, 19), (a, 901), (b, 902)] ∨ g0 < b1 := hb1.imp (by rintro rfl; simp) id
      have hE := (⟨hK, hO, e37, hcl, hnr, hkr, hrow1⟩ : _ ∧ _ ∧ _ ∧ _ ∧ _ ∧ _ ∧ _)
      have hxs := x.sz_eq
      refine p_go ?_
      refine p_freeze (g1 := c1) (d1 := 900) (h := ?_)
      refine p_rvSl (g1 := b1) (d1 := 902) (g2 := c1) (d2 := 900) (n := i) (i := nd.length) oB_ (by rw [hlen]; simp [List.append_assoc]) oB_ (by simp [idxs_len]; omega) ?_
      rw [kend hlen]
      refine p_go ?_
      refine p_retE1 (v := inV nd.length) rfl eV_ (hK0 _ _ _ (by first | (dsimp only; omega) | omega) (by (try dsimp only); repeat (first | exact hlow | exact LowQ.refl | refine LowQ.or_ ?_ (by assumption) | refine LowQ.up ?_ (by omega) | refine LowQ.at_ ?_ (by simp))) (⟨rfl, a1, b1, by omega, by (try dsimp only); omega, by omega, by (try dsimp only); omega, by rw [show nd.length + x.sz = (nd ++ [x] ++ preL (x.kids)).length by rw [hndl]; omega]; exact oB_, by rw [show nd ++ pre x = (nd ++ [x] ++ preL (x.kids)) by rw [pre_eq, List.append_assoc]; rfl]; exact oB_, by rw [knB_eq, List.map_cons, show kv ++ (knV (idxs x.kids (nd.length + 1)) :: (knL x.kids (nd.length + 1)).map knV) = kv ++ [knV (idxs x.kids (nd.length + 1))] ++ (knL x.kids (nd.length + 1)).map knV by simp]; exact oB_⟩))

end Go.Proofs.Ytjdhkopjigijfaa
