/-
  The abstract machine: parts of slices that are only read; the rules on maps and parts in the form in which a walk uses them.
-/
import Derived.Test.YtjjpmbaddpiamaaDoorJ
set_option linter.unusedSimpArgs false
set_option linter.unusedVariables false
namespace Go.Proofs.YtjjpmbaddpiamaaDoor
open Go.RowKit
section
variable {P : Program} {w : World} {S : Nat → Prop}
theorem RLrow.of_get {e : TypeId} {ad : Addr} : ∀ (xs : List V) (k : Nat), (∀ i x, xs[i]? = some x → ∃ cs : List Value, cs.length = P.cellsOf e ∧ (∀ j u, cs[j]? = some u → w.cell? (ad.add ((k + i) * P.cellsOf e + j)) = some u) ∧ RX P w S x cs) → RLrow P w S e ad k xs
  | [], _, _ => by simp [RLrow]
  | x :: xs, k, h => by
    rw [RLrow_cons]
    refine ⟨by simpa using h 0 x rfl, RLrow.of_get xs (k + 1) fun i y hy => ?_⟩
    have := h (i + 1) y (by simpa using hy)
    rwa [show k + (i + 1) = k + 1 + i by omega] at this
theorem add_add (a : Addr) (m n : Nat) : (a.add m).add n = a.add (m + n) := by
  unfold Addr.add
  by_cases h1 : m = 0 <;> by_cases h2 : n = 0 <;> simp [h1, h2, Nat.add_assoc]
theorem RL.part {e : TypeId} {xs : List V} {A : Option Addr} {n cp size l h : Nat} (hr : RL P w S (.sl e xs) (.slice A n cp)) (hs : P.cellsOf e = size) (hl : l ≤ h) (hh : h ≤ n) : RL P w S (.sl e ((xs.take h).drop l)) (.slice (if cp = l then A else A.map (·.add (l * size))) (h - l) (cp - l)) := by
  rw [RL] at hr ⊢
  obtain ⟨A', cp', h1, h2, h3⟩ := hr
  cases h1
  have hlen : ((xs.take h).drop l).length = h - l := by simp; omega
  refine ⟨_, _, by rw [hlen], by rw [hlen]; omega, ?_⟩
  by_cases hc : cp = l
  · left
    refine List.eq_nil_of_length_eq_zero ?_
    rw [hlen]; omega
  · rw [if_neg hc]
    rcases h3 with h3 | ⟨ad, rfl, h4, h5⟩
    · left; subst h3; simp
    · right
      refine ⟨ad.add (l * size), rfl, by rw [add_block]; exact h4, RLrow.of_get _ 0 fun i x hx => ?_⟩
      rw [List.getElem?_drop, List.getElem?_take] at hx
      split at hx
      · obtain ⟨cs, k1, k2, k3⟩ := h5.get hx
        refine ⟨cs, k1, fun j u hu => ?_, k3⟩
        rw [add_add, ← k2 j u hu, hs]
        congr 2
        rw [Nat.zero_add, Nat.zero_add, Nat.add_mul]; omega
      · cases hx
end
section
variable {c : Ctx} {st : St} {o : Oper} {d : Nat}
theorem sliceAt_run {P : Program} {w : World} {t e : TypeId} (ht : P.underlying t = some (.slice e)) {z : Value} {size bytes : Nat} (hi : TI P e z size bytes) {A : Option Addr} {n cp l h : Nat} (hl : l ≤ h) (hh : h ≤ n) (hcp : n ≤ cp) {lo hi' : Option Value} (hlo : (lo = none ∧ l = 0) ∨ lo = some (.int .i64 l)) (hhi : (hi' = none ∧ h = n) ∨ hi' = some (.int .i64 h)) :
    (Instr.sliceAt t (.slice A n cp) lo hi' none).run P w = .ok (.slice (if cp = l then A else A.map (·.add (l * size))) (h - l) (cp - l)) w := by
  rcases hlo with ⟨rfl, rfl⟩ | rfl <;> rcases hhi with ⟨rfl, rfl⟩ | rfl <;>
    simp [Instr.sliceAt, Instr.slice, run_underlying ht, Instr.sliceBounds, Instr.sliceBound, asIntOf, hi.sizeOf] <;> (try omega) <;> (try (intro hc; omega)) <;> (rw [if_pos (show h ≤ cp by omega), if_pos hl])
theorem Stp.part {t e : TypeId} {x : Operand} {lo hi' : Option Operand} {xs ys : List V} {l h : Nat} {z : Value} {size bytes : Nat} (hd : o.dst = some d) (hn : d < c.nt) (hop : o.op = .slice t x lo hi' none) (ht : c.P.underlying t = some (.slice e)) (hi : TI c.P e z size bytes) (hx : st.ev x = .sl e xs)
    (hlo : (lo = none ∧ l = 0) ∨ ∃ y, lo = some y ∧ st.ev y = .int .i64 l) (hhi : (hi' = none ∧ h = xs.length) ∨ ∃ y, hi' = some y ∧ st.ev y = .int .i64 h) (hl : l ≤ h) (hh : h ≤ xs.length) (hys : (xs.take h).drop l = ys) : Stp c o st (st.put d (.sl e ys)) :=
  Stp.val hd hn fun S at_ a w hr => by
    have h1 := hr.ev x
    rw [hx, VR] at h1
    have h1' := h1
    rw [RL] at h1'
    obtain ⟨A, cp, h3, h4, _⟩ := h1'
    rw [h3] at h1
    have hlo' : (lo.map a.eval = none ∧ l = 0) ∨ lo.map a.eval = some (.int .i64 l) := by
      rcases hlo with ⟨rfl, rfl⟩ | ⟨y, rfl, hy⟩
      · exact .inl ⟨rfl, rfl⟩
      · right; have := hr.ev y; rw [hy, VR, RL] at this; simp [this]
    have hhi' : (hi'.map a.eval = none ∧ h = xs.length) ∨ hi'.map a.eval = some (.int .i64 h) := by
      rcases hhi with ⟨rfl, rfl⟩ | ⟨y, rfl, hy⟩
      · exact .inl ⟨rfl, rfl⟩
      · right; have := hr.ev y; rw [hy, VR, RL] at this; simp [this]
    have hrun := sliceAt_run (P := c.P) (w := w) ht hi (A := A) (n := xs.length) (cp := cp) hl hh h4 hlo' hhi'
    refine ⟨_, by simp only [execOp, hop, h3, Option.map_none, hrun, Sem.run_bind, Sem.run_pure, Result.andThen]; rfl, ?_⟩
    subst hys
    rw [VR]
    exact RL.part h1 hi.cells hl hh
end
section
variable {P : Program} {w0 : World} {S0 : Nat → Prop} {nt : Nat} {frs : Frs} {e : Nat → V} {ob : Nat → Nat → Ob} {g : Nat} {Q : Exit → Act → World → Prop} {K : Act → World → Prop} {ops : Array Oper} {rest : List Oper} {d : Nat} {ty : TypeId} {pos : String} {aft : Array Edge} {m : Md}
theorem p_partLo {t t' : TypeId} {x y : Operand} {xs ys : List V} {l : Nat} {z : Value} {size bytes : Nat} (hn : d < nt := by decide) (ht : P.underlying t = some (.slice t')) (hi : TI P t' z size bytes) (hx : evE e x = .sl t' xs := by simp (decide := true) only [evE, upd, cv, args0, argsFrom, List.length_map, ↓reduceIte, hE] <;> rfl) (hy : evE e y = .int .i64 l := by simp (decide := true) only [evE, upd, cv, args0, argsFrom, List.length_map, ↓reduceIte, hE] <;> rfl) (hl : l ≤ xs.length) (hys : xs.drop l = ys) (h : Wk (m.log ⟨some (d, .sl t' ys), [], []⟩) ⟨P, w0, S0, nt, frs⟩ ops Q ⟨upd e d (.sl t' ys), ob, g⟩ rest) :
    Wk m ⟨P, w0, S0, nt, frs⟩ ops Q ⟨e, ob, g⟩ (⟨some d, .slice t x (some y) none none, ty, pos, aft, none⟩ :: rest) :=
  Wk.op (Loc.plain rfl rfl fun st' hv _ _ => Stp.part (st := st') (l := l) (h := xs.length) rfl hn rfl ht hi ((hv x (by simp [Op.operands])).trans ((evE_eq e ob g x).trans hx)) (.inr ⟨y, rfl, (hv y (by simp [Op.operands])).trans ((evE_eq e ob g y).trans hy)⟩) (.inl ⟨rfl, rfl⟩) hl (Nat.le_refl _) (by rw [List.take_length]; exact hys)) h
theorem p_partHi {t t' : TypeId} {x y : Operand} {xs ys : List V} {l : Nat} {z : Value} {size bytes : Nat} (hn : d < nt := by decide) (ht : P.underlying t = some (.slice t')) (hi : TI P t' z size bytes) (hx : evE e x = .sl t' xs := by simp (decide := true) only [evE, upd, cv, args0, argsFrom, List.length_map, ↓reduceIte, hE] <;> rfl) (hy : evE e y = .int .i64 l := by simp (decide := true) only [evE, upd, cv, args0, argsFrom, List.length_map, ↓reduceIte, hE] <;> rfl) (hl : l ≤ xs.length) (hys : xs.take l = ys) (h : Wk (m.log ⟨some (d, .sl t' ys), [], []⟩) ⟨P, w0, S0, nt, frs⟩ ops Q ⟨upd e d (.sl t' ys), ob, g⟩ rest) :
    Wk m ⟨P, w0, S0, nt, frs⟩ ops Q ⟨e, ob, g⟩ (⟨some d, .slice t x none (some y) none, ty, pos, aft, none⟩ :: rest) :=
  Wk.op (Loc.plain rfl rfl fun st' hv _ _ => Stp.part (st := st') (l := 0) (h := l) rfl hn rfl ht hi ((hv x (by simp [Op.operands])).trans ((evE_eq e ob g x).trans hx)) (.inl ⟨rfl, rfl⟩) (.inr ⟨y, rfl, (hv y (by simp [Op.operands])).trans ((evE_eq e ob g y).trans hy)⟩) (Nat.zero_le _) hl (by rw [List.drop_zero]; exact hys)) h
theorem p_makeMap {t : TypeId} {mp : MP} (hn : d < nt := by decide) (hf : ob g d = .none := by repeat (first | exact hf _ | with_reducible rfl | rw [updO_off (by decide)])) (hm : mp.ent = []) (h : Wk (m.log ⟨some (d, .map g d), [(g, d, .map mp)], [(g, d)]⟩) ⟨P, w0, S0, nt, frs⟩ ops Q ⟨upd e d (.map g d), updO ob g d (.map mp), g⟩ rest) : Wk m ⟨P, w0, S0, nt, frs⟩ ops Q ⟨e, ob, g⟩ (⟨some d, .makeMap t none, ty, pos, aft, none⟩ :: rest) :=
  Wk.op (Loc.plain rfl rfl fun st' hv' ho' hg => by
    obtain ⟨e', ob', g'⟩ := st'
    obtain rfl : g = g' := hg.symm
    exact Stp.makeMap (st := ⟨e', ob', g⟩) rfl hn rfl ((ho' (g, d) (by simp)).trans hf) hm) h
theorem p_lookOwn {t kt el : TypeId} {x y : Operand} {ok : Bool} {g1 d1 : Nat} {mp : MP} {k : MK} {u v : V} {z : Value} {size bytes : Nat} (hn : d < nt := by decide) (ht : P.underlying t = some (.map kt el)) (hi : TI P el z size bytes) (hx : evE e x = .map g1 d1 := by simp (decide := true) only [evE, upd, cv, args0, argsFrom, List.length_map, ↓reduceIte, hE] <;> rfl) (ho : ob g1 d1 = .map mp := by simp (decide := true) only [updO, upd, true_and, and_true, false_and, and_false, ↓reduceIte, hE] <;> first | rfl | assumption) (hy : evE e y = u := by simp (decide := true) only [evE, upd, cv, args0, argsFrom, List.length_map, ↓reduceIte, hE] <;> rfl) (hk : u.key = some k) (hf : k.fits P kt mp)
    (hv : (if ok then .tup [cv ((mp.get k).getD z), .bool (mp.get k).isSome] else cv ((mp.get k).getD z)) = v) (h : Wk (m.log ⟨some (d, v), [], [(g1, d1)]⟩) ⟨P, w0, S0, nt, frs⟩ ops Q ⟨upd e d v, ob, g⟩ rest) : Wk m ⟨P, w0, S0, nt, frs⟩ ops Q ⟨e, ob, g⟩ (⟨some d, .lookup t x y ok, ty, pos, aft, none⟩ :: rest) :=
  Wk.op (Loc.plain rfl rfl fun st' hv' ho' _ => Stp.lookOwn (st := st') rfl hn rfl ht hi ((hv' x (by simp [Op.operands])).trans ((evE_eq e ob g x).trans hx)) ((ho' (g1, d1) (by simp)).trans ho) ((hv' y (by simp [Op.operands])).trans ((evE_eq e ob g y).trans hy)) hk hf hv) h
theorem p_lookRead {t kt el : TypeId} {x y : Operand} {ok : Bool} {mp : MP} {k : MK} {u v : V} {z : Value} {size bytes : Nat} (hn : d < nt := by decide) (ht : P.underlying t = some (.map kt el)) (hi : TI P el z size bytes) (hx : evE e x = .mp mp := by simp (decide := true) only [evE, upd, cv, args0, argsFrom, List.length_map, ↓reduceIte, hE] <;> rfl) (hy : evE e y = u := by simp (decide := true) only [evE, upd, cv, args0, argsFrom, List.length_map, ↓reduceIte, hE] <;> rfl) (hk : u.key = some k) (hf : k.fits P kt mp)
    (hv : (if ok then .tup [cv ((mp.get k).getD z), .bool (mp.get k).isSome] else cv ((mp.get k).getD z)) = v) (h : Wk (m.log ⟨some (d, v), [], []⟩) ⟨P, w0, S0, nt, frs⟩ ops Q ⟨upd e d v, ob, g⟩ rest) : Wk m ⟨P, w0, S0, nt, frs⟩ ops Q ⟨e, ob, g⟩ (⟨some d, .lookup t x y ok, ty, pos, aft, none⟩ :: rest) :=
  Wk.op (Loc.plain rfl rfl fun st' hv' ho' _ => Stp.lookRead (st := st') rfl hn rfl ht hi ((hv' x (by simp [Op.operands])).trans ((evE_eq e ob g x).trans hx)) ((hv' y (by simp [Op.operands])).trans ((evE_eq e ob g y).trans hy)) hk hf hv) h
theorem p_mapPut {t kt el : TypeId} {x y z : Operand} {g1 d1 : Nat} {mp : MP} {k : MK} {u : V} {v : Value} (ht : P.underlying t = some (.map kt el)) (hx : evE e x = .map g1 d1 := by simp (decide := true) only [evE, upd, cv, args0, argsFrom, List.length_map, ↓reduceIte, hE] <;> rfl) (ho : ob g1 d1 = .map mp := by simp (decide := true) only [updO, upd, true_and, and_true, false_and, and_false, ↓reduceIte, hE] <;> first | rfl | assumption) (hy : evE e y = u := by simp (decide := true) only [evE, upd, cv, args0, argsFrom, List.length_map, ↓reduceIte, hE] <;> rfl) (hk : u.key = some k) (hf : k.fits P kt mp) (hz : evE e z = cv v := by simp (decide := true) only [evE, upd, cv, args0, argsFrom, List.length_map, ↓reduceIte, hE] <;> rfl) (hvf : (cv v).flatL = true)
    (h : Wk (m.log ⟨none, [(g1, d1, .map (mp.put k v))], [(g1, d1)]⟩) ⟨P, w0, S0, nt, frs⟩ ops Q ⟨e, updO ob g1 d1 (.map (mp.put k v)), g⟩ rest) : Wk m ⟨P, w0, S0, nt, frs⟩ ops Q ⟨e, ob, g⟩ (⟨none, .mapUpdate t x y z, ty, pos, aft, none⟩ :: rest) :=
  Wk.op (Loc.plain rfl rfl fun st' hv' ho' _ => Stp.mapPut (st := st') rfl (.inl rfl) ht ((hv' x (by simp [Op.operands])).trans ((evE_eq e ob g x).trans hx)) ((ho' (g1, d1) (by simp)).trans ho) ((hv' y (by simp [Op.operands])).trans ((evE_eq e ob g y).trans hy)) hk hf ((hv' z (by simp [Op.operands])).trans ((evE_eq e ob g z).trans hz)) hvf) h
theorem p_mapIns {t kt el : TypeId} {x y z : Operand} {g1 d1 : Nat} {mp : MP} {k : MK} {u : V} {v : Value} (ht : P.underlying t = some (.map kt el)) (hx : evE e x = .map g1 d1 := by simp (decide := true) only [evE, upd, cv, args0, argsFrom, List.length_map, ↓reduceIte, hE] <;> rfl) (ho : ob g1 d1 = .map mp := by simp (decide := true) only [updO, upd, true_and, and_true, false_and, and_false, ↓reduceIte, hE] <;> first | rfl | assumption) (hy : evE e y = u := by simp (decide := true) only [evE, upd, cv, args0, argsFrom, List.length_map, ↓reduceIte, hE] <;> rfl) (hk : u.key = some k) (hf : k.fits P kt mp) (hz : evE e z = cv v := by simp (decide := true) only [evE, upd, cv, args0, argsFrom, List.length_map, ↓reduceIte, hE] <;> rfl) (hvf : (cv v).flatL = true)
    (h : Wk (m.log ⟨none, [(g1, d1, .map (mp.put k v))], [(g1, d1)]⟩) ⟨P, w0, S0, nt, frs⟩ ops Q ⟨e, updO ob g1 d1 (.map (mp.put k v)), g⟩ rest) : Wk m ⟨P, w0, S0, nt, frs⟩ ops Q ⟨e, ob, g⟩ (⟨none, .insert t x y z, ty, pos, aft, none⟩ :: rest) :=
  Wk.op (Loc.plain rfl rfl fun st' hv' ho' _ => Stp.mapPut (st := st') rfl (.inr rfl) ht ((hv' x (by simp [Op.operands])).trans ((evE_eq e ob g x).trans hx)) ((ho' (g1, d1) (by simp)).trans ho) ((hv' y (by simp [Op.operands])).trans ((evE_eq e ob g y).trans hy)) hk hf ((hv' z (by simp [Op.operands])).trans ((evE_eq e ob g z).trans hz)) hvf) h
/-- A map of the call's own in a slot is only read from here on. -/
theorem p_mapSl {s g1 d1 : Nat} {mp : MP} (hs : evE e (.tmp s) = .map g1 d1 := by simp (decide := true) only [evE, upd, cv, args0, argsFrom, List.length_map, ↓reduceIte, hE] <;> rfl) (ho : ob g1 d1 = .map mp := by simp (decide := true) only [updO, upd, true_and, and_true, false_and, and_false, ↓reduceIte, hE] <;> first | rfl | assumption) (h : Tr ⟨P, w0, S0, nt, frs⟩ ⟨upd e s (.mp mp), updO ob g1 d1 (.fmap mp), g⟩ K) : Tr ⟨P, w0, S0, nt, frs⟩ ⟨e, ob, g⟩ K := by
  intro S at_ a w hr
  obtain ⟨v, hat⟩ := hr.at_of (g := g1) (d := d1) (by rw [show (⟨e, ob, g⟩ : St).obj g1 d1 = .map mp from ho]; intro e; cases e)
  have hok := hr.ok g1 d1 v hat
  rw [show (⟨e, ob, g⟩ : St).obj g1 d1 = .map mp from ho] at hok
  obtain ⟨b, arr, clock, rfl, h2, h3⟩ := hok
  have hlive : ((⟨e, ob, g⟩ : St).obj g1 d1).live = true := by rw [show (⟨e, ob, g⟩ : St).obj g1 d1 = .map mp from ho]; rfl
  have hsame : ∀ {g2 d2}, ¬ (d2 = d1 ∧ g2 = g1) → (updO ob g1 d1 (.fmap mp)) g2 d2 = ob g2 d2 := fun hne => by simp [updO, hne]
  have hthis : (updO ob g1 d1 (.fmap mp)) g1 d1 = .fmap mp := by simp [updO]
  have hl2 : ∀ {g2 d2}, ((updO ob g1 d1 (.fmap mp)) g2 d2).live = true → ¬ (d2 = d1 ∧ g2 = g1) ∧ (ob g2 d2).live = true := fun {g2 d2} hh => by
    by_cases he : d2 = d1 ∧ g2 = g1
    · obtain ⟨rfl, rfl⟩ := he; rw [hthis] at hh; simp [Ob.live] at hh
    · exact ⟨he, by rwa [hsame he] at hh⟩
  let S' : Nat → Prop := fun k => S k ∨ k = b
  have hb := hr.own g1 d1 _ b hat hlive rfl
  have hr' : Rel ⟨P, w0, S0, nt, frs⟩ S' at_ ⟨e, updO ob g1 d1 (.fmap mp), g⟩ a w := by
    refine hr.move (obj' := updO ob g1 d1 (.fmap mp)) (at' := at_) (S' := S') hr.below (Nat.le_refl _) (fun _ h => .inl h) ?_ ?_ (fun _ _ => rfl) (fun _ _ _ h => h) (dfd_off (by show ob g1 d1 ≠ .dfd; rw [ho]; simp)) ?_ ?_ ?_ ?_ ?_
    · rintro k (hk | rfl)
      · exact hr.slt k hk
      · exact hb.2.1
    · rintro k (hk | rfl)
      · exact hr.snew k hk
      · exact .inr hb.1
    · intro g2 d2 hg2
      by_cases he : d2 = d1 ∧ g2 = g1
      · obtain ⟨rfl, rfl⟩ := he
        have := hr.gen g2 d2 hg2
        rw [show (⟨e, ob, g⟩ : St).obj g2 d2 = .map mp from ho] at this; cases this
      · rw [hsame he]; exact hr.gen g2 d2 hg2
    · intro g2 d2
      by_cases he : d2 = d1 ∧ g2 = g1
      · obtain ⟨rfl, rfl⟩ := he
        rw [hthis, hat]
        exact ⟨(fun e => by cases e), fun e => by cases e⟩
      · rw [hsame he]; exact hr.al g2 d2
    · intro g2 d2 v2 hv2
      by_cases he : d2 = d1 ∧ g2 = g1
      · obtain ⟨rfl, rfl⟩ := he
        rw [hat] at hv2; cases hv2
        rw [hthis]
        simp only [ObOk, RL]
        exact ⟨b, arr, clock, rfl, .inr rfl, h2, h3⟩
      · rw [hsame he]
        exact (hr.ok g2 d2 v2 hv2).mono (fun _ h => .inl h) (fun _ _ => rfl) (fun _ _ _ h => h) (fun _ _ _ => rfl)
    · intro g2 d2 v2 k k1 k2 k3
      obtain ⟨k4, k5⟩ := hl2 k2
      obtain ⟨k6, k7, k8⟩ := hr.own g2 d2 v2 k k1 k5 k3
      refine ⟨k6, k7, ?_⟩
      rintro (k9 | rfl)
      · exact k8 k9
      · have := hr.dis g1 d1 g2 d2 _ v2 k hat k1 hlive k5 rfl k3
        exact k4 ⟨this.2.symm, this.1.symm⟩
    · intro g2 d2 g3 d3 v2 v3 k k1 k2 k3 k4 k5 k6
      exact hr.dis g2 d2 g3 d3 v2 v3 k k1 k2 (hl2 k3).2 (hl2 k4).2 k5 k6
  refine h S' at_ a w (hr'.slotV (s := s) fun x hx => ?_)
  rw [show (⟨e, updO ob g1 d1 (.fmap mp), g⟩ : St).env s = .map g1 d1 from hs, VR] at hx
  obtain ⟨b', k1, rfl⟩ := hx
  rw [hat] at k1; cases k1
  rw [VR, RL]
  exact ⟨b, arr, clock, rfl, .inr rfl, h2, h3⟩
end
end Go.Proofs.YtjjpmbaddpiamaaDoor
