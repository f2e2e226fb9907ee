/-
  The matcher: does an expression have a word?
-/
import Derived.Test.YtjdhkopjigijfaaXi
set_option linter.unusedSimpArgs false
set_option linter.unusedVariables false
set_option maxHeartbeats 4000000
namespace Go.Proofs.Ytjdhkopjigijfaa
open Go.RowKit
attribute [local irreducible] Wk Tr
/-- Each node's Kids are told by their own numbers. -/
def NumAt (nd : List Rx) (kn : List (List Nat)) (n : Nat) : Prop := ∀ x, nd[n]? = some x → ∃ h : n < kn.length, kn[n].length = x.kids.length ∧ ∀ t (ht : t < x.kids.length) (ht' : t < kn[n].length), nd[kn[n][t]]? = some x.kids[t]
theorem idxs_at : ∀ (l : List Rx) (b t : Nat) (h : t < (idxs l b).length), (idxs l b)[t] = b + Rx.szL (l.take t)
  | [], b, t, h => by simp [idxs] at h
  | k :: l, b, 0, h => by simp [idxs, Rx.szL]
  | k :: l, b, t + 1, h => by
    simp only [idxs, List.getElem_cons_succ, List.take_succ_cons, Rx.szL]
    rw [idxs_at l]; omega
theorem preL_at : ∀ (l : List Rx) (t : Nat) (h : t < l.length) (B : List Rx), (preL l ++ B)[Rx.szL (l.take t)]? = some l[t]
  | k :: l, 0, h, B => by simp [preL, Rx.szL, pre_eq]
  | k :: l, t + 1, h, B => by
    simp only [List.take_succ_cons, Rx.szL, preL, List.append_assoc, List.getElem_cons_succ]
    rw [List.getElem?_append_right (by rw [pre_len]; omega), pre_len, show k.sz + Rx.szL (l.take t) - k.sz = Rx.szL (l.take t) by omega]
    exact preL_at l t (by simpa using h) B
theorem num_at (r : Rx) : ∀ (A B : List Rx) (KA KB : List (List Nat)), A.length = KA.length → ∀ n, A.length ≤ n → n < A.length + r.sz → NumAt (A ++ pre r ++ B) (KA ++ knB r A.length ++ KB) n := by
  induction r using Rx.ind with
  | _ r ih =>
    have key : ∀ (l : List Rx), (∀ k ∈ l, k ∈ r.kids) → ∀ (A B : List Rx) (KA KB : List (List Nat)), A.length = KA.length → ∀ n, A.length ≤ n → n < A.length + Rx.szL l → NumAt (A ++ preL l ++ B) (KA ++ knL l A.length ++ KB) n := by
      intro l
      induction l with
      | nil => intro _ A B KA KB _ n h1 h2; rw [Rx.szL] at h2; omega
      | cons k l ihl =>
        intro hm A B KA KB hl n h1 h2
        rw [Rx.szL] at h2
        by_cases hn : n < A.length + k.sz
        · have := ih k (hm k (List.mem_cons_self ..)) A (preL l ++ B) KA (knL l (A.length + k.sz) ++ KB) hl n h1 hn
          simpa only [preL, knL, List.append_assoc] using this
        · have := ihl (fun k' hk' => hm k' (List.mem_cons_of_mem _ hk')) (A ++ pre k) B (KA ++ knB k A.length) KB (by simp [pre_len, knB_len, hl]) n (by rw [List.length_append, pre_len]; omega) (by rw [List.length_append, pre_len]; omega)
          rw [List.length_append, pre_len] at this
          simpa only [preL, knL, List.append_assoc] using this
    intro A B KA KB hl n h1 h2
    by_cases hn : n = A.length
    · subst hn
      intro x hx
      rw [pre_eq] at hx
      have hx' : x = r := by
        rw [List.append_assoc, List.getElem?_append_right (Nat.le_refl _), Nat.sub_self] at hx
        simpa using hx.symm
      subst hx'
      have hkn : (KA ++ knB x A.length ++ KB)[A.length]? = some (idxs x.kids (A.length + 1)) := by
        rw [hl, List.append_assoc, List.getElem?_append_right (Nat.le_refl _), Nat.sub_self, knB_eq]; rfl
      obtain ⟨hlt, hkn'⟩ := List.getElem?_eq_some_iff.1 hkn
      refine ⟨hlt, by rw [hkn', idxs_len], fun t ht ht' => ?_⟩
      have ht2 : t < (idxs x.kids (A.length + 1)).length := by rw [idxs_len]; exact ht
      have e : (KA ++ knB x A.length ++ KB)[A.length][t] = A.length + 1 + Rx.szL (x.kids.take t) := by
        rw [← idxs_at x.kids (A.length + 1) t ht2]
        simp only [hkn']
      rw [e, pre_eq, show A ++ x :: preL x.kids ++ B = (A ++ [x]) ++ (preL x.kids ++ B) by simp, List.getElem?_append_right (by simp), show A.length + 1 + Rx.szL (x.kids.take t) - (A ++ [x]).length = Rx.szL (x.kids.take t) by simp]
      exact preL_at x.kids t ht B
    · have h3 := r.sz_eq
      have := key r.kids (fun k hk => hk) (A ++ [r]) B (KA ++ [idxs r.kids (A.length + 1)]) KB (by simp [hl]) n (by simp; omega) (by simp; omega)
      rw [List.length_append, List.length_singleton] at this
      rw [pre_eq, knB_eq]
      simpa only [List.append_assoc, List.singleton_append, List.cons_append, List.nil_append] using this
theorem num_all (r : Rx) (n : Nat) : NumAt (pre r) (knB r 0) n := fun x hx => by
  have hlt := (List.getElem?_eq_some_iff.1 hx).1
  rw [pre_len] at hlt
  have h := num_at r [] [] [] [] rfl n (by simp) (by simpa using hlt)
  simp only [List.nil_append, List.append_nil, List.length_nil] at h
  exact h x hx
theorem pre_mem (r : Rx) : ∀ x ∈ pre r, x.sz ≤ r.sz ∧ (rightB r = true → rightB x = true) := by
  induction r using Rx.ind with
  | _ r ih =>
    intro x hx
    rw [pre_eq] at hx
    rcases List.mem_cons.1 hx with rfl | hx
    · exact ⟨Nat.le_refl _, id⟩
    · have key : ∀ l : List Rx, x ∈ preL l → ∃ k ∈ l, x ∈ pre k := by
        intro l
        induction l with
        | nil => intro h; simp [preL] at h
        | cons k l ihl =>
          intro h
          rw [preL] at h
          rcases List.mem_append.1 h with h | h
          · exact ⟨k, List.mem_cons_self .., h⟩
          · obtain ⟨k', hk', h⟩ := ihl h
            exact ⟨k', List.mem_cons_of_mem _ hk', h⟩
      obtain ⟨k, hk, hx⟩ := key _ hx
      obtain ⟨h1, h2⟩ := ih k hk x hx
      have h3 := Rx.szL_mem hk
      have h4 := r.sz_eq
      refine ⟨by omega, fun hr => h2 ?_⟩
      rw [rightB_eq, Bool.and_eq_true, List.all_eq_true] at hr
      exact hr.1 k hk
theorem right_one {x : Rx} (hr : rightB x = true) (h : x.op = 7 ∨ x.op = 8) : 0 < x.kids.length := by
  rw [r_node1 h] at hr
  simp only [Bool.and_eq_true, decide_eq_true_eq] at hr
  omega
theorem endsP (w : List ByteArray) (hw : w.length ≤ 100) (r : Rx) (hr : rightB r = true) (hs : r.sz ≤ 500) (q qm : Nat) : ∀ s n x, (pre r)[n]? = some x → x.sz ≤ s → ∀ i, i ≤ w.length → EndC w (pre r) (knB r 0) q qm n x i
  | 0, n, x, hx, hxs, i, hi => by have := x.sz_pos; omega
  | s + 1, n, x, hx, hxs, i, hi => by
    intro M hM
    cases hg : mget (n, i) M with
    | some v => exact ends_hit w (pre r) (knB r 0) q qm hw n x hx i hi M hM v hg
    | none =>
      obtain ⟨h1, h2, h3⟩ := num_all r n x hx
      obtain ⟨hlt, hxe⟩ := List.getElem?_eq_some_iff.1 hx
      obtain ⟨h4, h5⟩ := pre_mem r x (hxe ▸ List.getElem_mem hlt)
      have h6 := Rx.szL_len x.kids
      have h7 := x.sz_eq
      refine ends_miss w (pre r) (knB r 0) q qm hw n x hx i hi M hM hg h1 hlt hxe h2 (by omega) (fun h => right_one (h5 hr) h) fun t ht ht' j hj => ?_
      have h8 := Rx.szL_mem (List.getElem_mem ht)
      exact endsP w hw r hr hs q qm s _ _ (h3 t ht ht') (by omega) j hj
theorem numberP (q : Nat) (wV mV : V) (hwV : wV.leaf = true) (hmV : mV.leaf = true) (r : Rx) (hr : r.sz ≤ 1000) : ∀ (a b : Nat) (nd : List Rx) (kv : List V), nd.length = kv.length → nd.length + r.sz ≤ 1000000 → FnX Try.prog 33 [.ptr q 19 0, rxA r] [(q, 19), (a, 901), (b, 902)] [.cells 77 [wV, .row a 901 (nd.length), .row b 902 (nd.length), mV], .row 25 (nd.map rxV), .rv 79 (kv)] (fun g v o g' => v = inV nd.length ∧ ∃ a' b', (a' = a ∨ g < a') ∧ a' ≤ g' ∧ (b' = b ∨ g < b') ∧ b' ≤ g' ∧ o q 19 = .cells 77 [wV, .row a' 901 (nd.length + r.sz), .row b' 902 (nd.length + r.sz), mV] ∧ o a' 901 = .row 25 ((nd ++ pre r).map rxV) ∧ o b' 902 = .rv 79 (kv ++ (knB r nd.length).map knV)) := by
  induction r using Rx.ind with
  | _ r ih =>
    intro a b nd kv hl hs
    have h6 := Rx.szL_len r.kids
    have h7 := r.sz_eq
    exact number_gen q wV mV hwV hmV r (by omega) (fun k hk => ih k hk (by have := Rx.szL_mem hk; omega)) a b nd kv hl hs
/-- What the matcher answers. -/
def mtB (r : Rx) (w : List ByteArray) : Bool := decide (errE r = 0) && (decide (w.length ≤ 100) && spanB w r 0 w.length)
def mtE (r : Rx) (w : List ByteArray) : Int := if errE r = 0 then (if 100 < w.length then 3 else 0) else errE r
theorem mem_len {w : List ByteArray} {r : Rx} : decide (((w.length : Nat) : Int) ∈ endsI w r 0) = spanB w r 0 w.length := by
  rw [Bool.eq_iff_iff, decide_eq_true_eq, mem_endsI]
  constructor
  · rintro ⟨j, _, h, e⟩
    have : w.length = j := by omega
    exact this ▸ h
  · intro h; exact ⟨_, by omega, h, rfl⟩
theorem kn_rl (l : List (List Nat)) : (l.map knV).all V.isRL = true := by
  rw [List.all_eq_true]
  intro v hv
  obtain ⟨x, _, rfl⟩ := List.mem_map.1 hv
  rfl

theorem matchP (x : Rx) (hs : x.Sm) (w : List ByteArray) (hwl : w.length ≤ 17592186044416) : FnC Try.prog 14 [rxA x, .sl 9 (w.map V.str)] (fun r => r = .tup [.bool (mtB x w), iV (mtE x w)]) := by
  refine FnC.of (fn := Try.f14) ⟨Try.func14, by kernel_rfl, rfl⟩ Try.ntmps14 (by simp) fun w0 S0 => ?_
  refine p_go fun hf => ?_
  refine p_call (hx := rfl) (hb := ⟨Try.func23, by kernel_rfl, rfl⟩) (hf := checkP x hs) (h := ?_)
  refine p_go ?_
  refine p_splitC (s := 11) (ht := fun hc11 => ?_) (hf := fun hc11 => ?_)
  · have he : errE x ≠ 0 := by simpa using hc11
    refine p_go ?_
    refine p_r2 (hp := by rw [mtB, mtE, if_neg he, decide_eq_false he]; rfl)
  · have he : errE x = 0 := by simpa using hc11
    have hxok := errE_ok.1 he
    have hxsz := hxok.sz
    refine p_go ?_
    refine p_splitC (s := 15) (ht := fun hc15 => ?_) (hf := fun hc15 => ?_)
    · have hw : ¬ w.length ≤ 100 := by simp at hc15; omega
      refine p_go ?_
      refine p_r2 (hp := by rw [mtB, mtE, if_pos he, if_pos (by omega), decide_eq_false hw]; simp)
    · have hw : w.length ≤ 100 := by simp at hc15; omega
      refine p_go fun hf => ?_
      refine p_mvMake (h := ?_)
      refine p_build (hi := F.ti77.h) (hpl := F.pl77.h) (h := ?_)
      refine p_box (h := ?_)
      refine p_assign (h := ?_)
      refine p_end ?_
      refine p_fresh fun hf => ?_
      refine p_nilCell (g1 := 0 + 1 + 1 + 1 + 1 + 1) (d1 := 19) (i := 1) (el := 25) 901 (h := ?_)
      refine p_nilCell (g1 := 0 + 1 + 1 + 1 + 1 + 1) (d1 := 19) (i := 2) (el := 79) 902 (h := ?_)
      refine p_toRv (g1 := 0 + 1 + 1 + 1 + 1 + 1 + 1) (d1 := 902) (t := 79) oB_ (by kernel_rfl) rfl ?_
      refine p_go fun hf => ?_
      refine p_callX ([(0 + 1 + 1 + 1 + 1 + 1, 17)]) (hf := numberP (0 + 1 + 1 + 1 + 1 + 1) (.sl 9 (w.map V.str)) (.map (0 + 1 + 1 + 1 + 1 + 1) 17) rfl rfl x (by omega) (0 + 1 + 1 + 1 + 1 + 1 + 1) (0 + 1 + 1 + 1 + 1 + 1 + 1) [] [] rfl (by simp; omega)) (hg := by simp <;> omega) (hos := by simp <;> omega) (h := fun r o5 h5 hg5 hlw5 hos5 hR5 => ?_)
      obtain ⟨rfl, a5, b5, ha5, hag5, hb5, hbg5, hc5, hn5, hk5⟩ := hR5
      simp only [valsO, List.cons.injEq, and_true] at hos5
      have hE := (⟨hos5, hc5, hn5, hk5⟩ : _ ∧ _ ∧ _ ∧ _)
      refine p_end ?_
      refine p_freeze (g1 := a5) (d1 := 901) (h := ?_)
      refine p_ofRv (g1 := b5) (d1 := 902) oB_ (by rw [List.nil_append]; exact kn_rl _) ?_
      refine p_freeze (g1 := b5) (d1 := 902) (h := ?_)
      refine p_cellSl (g1 := 0 + 1 + 1 + 1 + 1 + 1) (d1 := 19) (i := 1) (g2 := a5) (d2 := 901) (hn := by simp [pre_len]) (h := ?_)
      refine p_cellSl (g1 := 0 + 1 + 1 + 1 + 1 + 1) (d1 := 19) (i := 2) (g2 := b5) (d2 := 902) (hn := by simp [knB_len]) (h := ?_)
      refine p_go fun hf => ?_
      refine p_callX ([]) (hf := endsP w hw x hxok.right hxok.sz (0 + 1 + 1 + 1 + 1 + 1) (0 + 1 + 1 + 1 + 1 + 1) x.sz 0 x (by rw [pre_eq]; rfl) (Nat.le_refl _) 0 (Nat.zero_le _) [] (fun p hp => by cases hp)) (hg := by simp <;> omega) (hos := by simp) (h := fun r o6 h6 hg6 hlw6 hos6 hR6 => ?_)
      obtain ⟨rfl, hcl6, M6, hM6, hmv6⟩ := hR6
      have hE := hcl6
      refine p_go fun hf => ?_
      refine p_call (hx := rfl) (hb := ⟨Try.func34, by kernel_rfl, rfl⟩) (hf := contains_int (endsI w x 0) w.length (Nat.le_trans (endsI_le ..) (by omega))) (h := ?_)
      refine p_go ?_
      refine p_r2 (hp := by rw [mtB, mtE, if_pos he, if_neg (by omega), decide_eq_true he, decide_eq_true hw, mem_len]; rfl)

end Go.Proofs.Ytjdhkopjigijfaa
