/-
  The abstract machine: pointers compared and turned, strings out of rows of bytes.
-/
import Derived.Test.YtjjpmbaddpiamaaDoorZ89
import Derived.Lib.UnsafeStr
import Derived.Lib.AppendStr
set_option linter.unusedSimpArgs false
set_option linter.unusedVariables false
namespace Go.Proofs.YtjjpmbaddpiamaaDoor
open Go.RowKit
/-- Bytes as values. -/
abbrev byV (b : UInt8) : V := .int .u8 b.toNat
section
variable {c : Ctx} {S : Nat → Prop} {at_ : At} {st : St} {a : Act} {w : World}
/-- A block that nothing tells of is written. -/
theorem Rel.junk (h : Rel c S at_ st a w) {b : Nat} {w' : World} (hg : w.grownBy w' (some b)) (hsz : w'.heap.size = w.heap.size) (hb : c.w0.heap.size ≤ b) (hS : ¬ S b) (hnl : ∀ g d v, at_ g d = some v → (st.obj g d).live = true → blkOf v ≠ some b) : Rel c S at_ st a w' := by
  have hw : ∀ k, k < w.heap.size → k ≠ b → w'.heap[k]? = w.heap[k]? := fun k hk hne => hg.block k hk (fun e => hne (Option.some.inj e))
  have hbase := h.below.size
  refine h.move (obj' := st.obj) (at' := at_) (S' := S) ⟨hg.os.trans h.below.os, hg.tape.trans h.below.tape, hg.output.trans h.below.output, by omega, fun k hk => (hw k (by omega) (by omega)).trans (h.below.block k hk)⟩ (by omega) (fun _ h => h) (fun b hs => by rw [hsz]; exact h.slt b hs) h.snew
    (fun b' hs => hw b' (h.slt b' hs) (fun e => hS (e ▸ hs))) (fun _ _ _ h => h) (fun _ _ h => h) h.gen h.al
    (fun g d v hv => (h.ok g d v hv).mono (fun _ h => h) (fun b' hs => hw b' (h.slt b' hs) (fun e => hS (e ▸ hs))) (fun _ _ _ h => h) fun hl b' hb' => hw b' (h.own g d v b' hv hl hb').2.1 fun e => by subst e; exact hnl g d v hv hl hb')
    (fun g d v b' h1 h2 h3 => by rw [hsz]; exact h.own g d v b' h1 h2 h3) h.dis
theorem equalIn_ptrNil {P : Program} {w : World} {t te : TypeId} (p : Option Addr) (n : Nat) (ht : P.underlying t = some (.pointer te)) : (Op.equalIn (n + 1) t (.pointer p) (.pointer none)).run P w = .ok p.isNone w := by
  cases p <;> simp [Op.equalIn, run_underlying ht]
end
section
variable {c : Ctx} {st : St} {o : Oper} {d : Nat}
theorem Stp.ptrNil {t t' te : TypeId} {x : Operand} {b : Bool} (hd : o.dst = some d) (hn : d < c.nt) (hop : o.op = .binOp .eql t x (.const (.pointer none)) t') (ht : c.P.underlying t = some (.pointer te)) (hx : st.ev x = .any (.pointer none) ∧ b = true ∨ (∃ g e p, st.ev x = .ptr g e p) ∧ b = false) : Stp c o st (st.put d (.bool b)) :=
  Stp.val hd hn fun S at_ a w hr => by
    have h1 := hr.ev x
    have : ∃ p : Option Addr, a.eval x = .pointer p ∧ p.isNone = b := by
      rcases hx with ⟨hx, rfl⟩ | ⟨⟨g, e, p, hx⟩, rfl⟩
      · rw [hx, VR, RL] at h1; exact ⟨none, h1.1, rfl⟩
      · rw [hx, VR] at h1; obtain ⟨q, _, h2⟩ := h1; exact ⟨_, h2, rfl⟩
    obtain ⟨p, hp, rfl⟩ := this
    have heq : (Op.equal t (.pointer p) (.pointer none)).run c.P w = .ok p.isNone w := equalIn_ptrNil p 9999 ht
    refine ⟨.bool p.isNone, ?_, by rw [VR, RL]⟩
    cases p <;> simp [execOp, hop, hp, show a.eval (.const (.pointer none)) = .pointer none from rfl, eqGuard, binOp, heq]
theorem Stp.ptrSame {t t' te : TypeId} {x y : Operand} {g e p : Nat} {j : TypeInfo} (hd : o.dst = some d) (hn : d < c.nt) (hop : o.op = .binOp .neq t x y t') (ht : c.P.underlying t = some (.pointer te)) (hte : c.P.info? te = some j) (hx : st.ev x = .ptr g e p) (hy : st.ev y = .ptr g e p) : Stp c o st (st.put d (.bool false)) :=
  Stp.val hd hn fun S at_ a w hr => by
    have h1 := hr.ev x
    have h2 := hr.ev y
    rw [hx, VR] at h1
    rw [hy, VR] at h2
    obtain ⟨b, h3, h4⟩ := h1
    obtain ⟨b', h5, h6⟩ := h2
    rw [h3] at h5; cases h5
    refine ⟨.bool false, ?_, by rw [VR, RL]⟩
    simp [execOp, hop, h4, h6, eqGuard, Lib.run_neq_ptr_same w ⟨b, p, none⟩ ht hte]
theorem Stp.toUnsafe {src dst t te : TypeId} {x : Operand} {g e p : Nat} {cs : List V} {j : TypeInfo} (hd : o.dst = some d) (hn : d < c.nt) (hop : o.op = .convert src dst x) (hs : c.P.underlying src = some (.pointer t)) (hdst : c.P.underlying dst = some .unsafePointer) (ht : c.P.info? t = some j) (hj : j.size ≠ 0) (hx : st.ev x = .ptr g e p) (ho : st.obj g e = .cells te cs) (hp : p < cs.length) : Stp c o st (st.put d (.ptr g e p)) :=
  Stp.val hd hn fun S at_ a w hr => by
    have h1 := hr.ev x
    rw [hx, VR] at h1
    obtain ⟨b, h3, h4⟩ := h1
    have hok := hr.ok g e _ h3
    rw [ho] at hok
    obtain ⟨b', arr, h5, h6, h7⟩ := hok
    cases h5
    have hl := h7.length
    have hsh : w.shape? b = some (te, arr.size) := by simp [World.shape?, h6]
    refine ⟨_, ?_, by rw [VR]; exact ⟨b, h3, rfl⟩⟩
    simp [execOp, hop, h4, Lib.run_to_unsafe w ⟨b, p, none⟩ hs hdst ht hj hsh (show p < arr.size by rw [← Array.length_toList, ← hl]; exact hp), Result.andThen]
theorem Stp.fromUnsafe {src dst t te : TypeId} {x : Operand} {g e p : Nat} {cs : List V} {j : TypeInfo} (hd : o.dst = some d) (hn : d < c.nt) (hop : o.op = .convert src dst x) (hs : c.P.underlying src = some .unsafePointer) (hdst : c.P.underlying dst = some (.pointer t)) (ht : c.P.info? t = some j) (hx : st.ev x = .ptr g e p) (ho : st.obj g e = .cells te cs) (hlies : liesAt c.P c.P.depth te (cs.length / c.P.cellsOf te) p t 1 = true) : Stp c o st (st.put d (.ptr g e p)) :=
  Stp.val hd hn fun S at_ a w hr => by
    have h1 := hr.ev x
    rw [hx, VR] at h1
    obtain ⟨b, h3, h4⟩ := h1
    have hok := hr.ok g e _ h3
    rw [ho] at hok
    obtain ⟨b', arr, h5, h6, h7⟩ := hok
    cases h5
    have hl := h7.length
    have hsh : w.shape? b = some (te, arr.size) := by simp [World.shape?, h6]
    refine ⟨_, ?_, by rw [VR]; exact ⟨b, h3, rfl⟩⟩
    simp [execOp, hop, h4, Lib.run_from_unsafe w ⟨b, p, none⟩ hs hdst ht hsh (by rw [← show cs.length = arr.size by simpa using hl]; exact hlies), Result.andThen]
/-- unsafe.SliceData of a row of bytes that is not empty. -/
theorem Stp.sliceData {ty' e : TypeId} {x : Operand} {ts : Array TypeId} {g g' n : Nat} {bs : List UInt8} (hd : o.dst = some d) (hn : d < c.nt) (hop : o.op = .call { callee := .builtin .unsafeSliceData, args := #[x], argTypes := ts }) (hx : st.ev x = .row g g' n) (ho : st.obj g g' = .row e (bs.map byV)) (hne : bs ≠ []) : Stp c o st (st.put d (.rptr e g g' 0 0)) :=
  Stp.val hd hn fun S at_ a w hr => by
    have h1 := hr.ev x
    rw [hx, VR] at h1
    obtain ⟨A, m, cp, h3, h4, h5⟩ := h1
    have hok := hr.ok g g' _ h3
    rw [ho] at hok
    obtain ⟨flat, h6, h7⟩ := hok
    rcases h6.2 with ⟨h9, h10⟩ | ⟨b, cap, cur, h9, hb, hh, hcap, hmax, hcur, htake⟩
    · simp [hne] at h10
    · cases h9
      have hc0 : cp ≠ 0 := by
        have : bs.length ≠ 0 := by simpa using hne
        simp only [List.length_map] at hcap; omega
      refine ⟨.pointer (some ⟨b, 0, none⟩), ?_, by rw [VR]; exact ⟨b, _, _, h3, by simp⟩⟩
      have := Lib.run_unsafeSliceData_row (P := c.P) w ts o.type ⟨b, 0, none⟩ n cp hc0
      simp only [execOp, hop, resolve, invoke, builtin, Sem.run_bind, Sem.run_pure, Result.andThen_ok, List.map_toArray, List.map_cons, List.map_nil, h5, this]
theorem Stp.sliceDataNil {x : Operand} {ts : Array TypeId} (hd : o.dst = some d) (hn : d < c.nt) (hop : o.op = .call { callee := .builtin .unsafeSliceData, args := #[x], argTypes := ts }) (hx : st.ev x = .nil) : Stp c o st (st.put d (.any (.pointer none))) :=
  Stp.val hd hn fun S at_ a w hr => by
    have h1 := hr.ev x
    rw [hx, VR, RL] at h1
    refine ⟨.pointer none, ?_, by rw [VR, RL]; exact ⟨rfl, rfl⟩⟩
    have := Lib.run_unsafeSliceData_nil (P := c.P) w ts o.type 0 0
    simp only [execOp, hop, resolve, invoke, builtin, Sem.run_bind, Sem.run_pure, Result.andThen_ok, List.map_toArray, List.map_cons, List.map_nil, h1, this]
theorem Stp.uStringNil {x y : Operand} {pt it : TypeId} (hd : o.dst = some d) (hn : d < c.nt) (hop : o.op = .call { callee := .builtin .unsafeString, args := #[x, y], argTypes := #[pt, it] }) (hx : st.ev x = .any (.pointer none)) (hy : st.ev y = .int .i64 0) : Stp c o st (st.put d (.str ⟨#[]⟩)) :=
  Stp.val hd hn fun S at_ a w hr => by
    have h1 := hr.ev x
    have h2 := hr.ev y
    rw [hx, VR, RL] at h1
    rw [hy, VR, RL] at h2
    refine ⟨.string .empty, ?_, by rw [VR, RL]; rfl⟩
    have := Lib.run_unsafeString_none (P := c.P) w pt it o.type none
    simp only [execOp, hop, resolve, invoke, builtin, Sem.run_bind, Sem.run_pure, Result.andThen_ok, List.map_toArray, List.map_cons, List.map_nil, h1.1, h2, this]
/-- unsafe.String of a row of bytes: the row is told no more. -/
theorem Stp.uString {x y : Operand} {pt it e : TypeId} {g g' n : Nat} {bs : List UInt8} (hd : o.dst = some d) (hn : d < c.nt) (hop : o.op = .call { callee := .builtin .unsafeString, args := #[x, y], argTypes := #[pt, it] }) (hp : c.P.underlying pt = some (.pointer e)) (he : c.P.cellsOf e = 1) (hx : st.ev x = .rptr e g g' 0 0) (hy : st.ev y = .int .i64 n) (hnl : n = bs.length) (ho : st.obj g g' = .row e (bs.map byV)) (hne : bs ≠ []) : Stp c o st ((st.set g g' .dead).put d (.str ⟨bs.toArray⟩)) := by
  intro S at_ a w hr next Q hk
  subst hnl
  have h1 := hr.ev x
  have h2 := hr.ev y
  rw [hx, VR] at h1
  rw [hy, VR, RL] at h2
  obtain ⟨b, m, cp, h3, h4⟩ := h1
  rw [Nat.zero_mul, Nat.zero_add] at h4
  have hok := hr.ok g g' _ h3
  rw [ho] at hok
  obtain ⟨flat, h6, h7⟩ := hok
  have hfl : flat = bs.map fun x => Value.int .u8 x.toNat := (Flat_enc (α := UInt8) (enc := fun x => Value.int .u8 x.toNat) he (fun z cs => by
    constructor
    · intro h; simp only [byV, RX, RL] at h; obtain ⟨u, rfl, h⟩ := h; rw [h]
    · rintro rfl; simp only [byV, RX, RL]; exact ⟨_, rfl, rfl⟩) bs flat).1 h7
  rcases h6.2 with ⟨h9, h10⟩ | ⟨b', cap, cur, h9, hb, hh, hcap, hmax, hcur, htake⟩
  · cases h9
  · cases h9
    rw [he, List.length_map, Nat.mul_one] at htake
    simp only [List.length_map] at hcap
    have hsh : w.shape? b = some (e, cur.size) := by simp [World.shape?, hh]
    have hrun := Lib.run_unsafeString_row (P := c.P) w pt it o.type e hp he b cur.size hsh bs hne (by rw [hcur, he]; omega) (by simp only [maxLen] at hmax; omega) (fun j x hj => by
      have hlt := (List.getElem?_eq_some_iff.1 hj).1
      have h11 : (cur.toList.take bs.length)[j]? = some (.int .u8 x.toNat) := by rw [htake, hfl]; simp [hj]
      rw [List.getElem?_take_of_lt hlt] at h11
      rw [add_plain', Nat.zero_add, blk_cells hh]
      simpa using h11)
    have hr' := hr.kill h3 (by rw [ho]; simp)
    have hob := hr.own g g' _ b h3 (by rw [ho]; rfl) rfl
    have hr2 : Rel c S at_ (st.set g g' .dead) a (w.freeze ⟨b, 0, none⟩ bs.length) := by
      refine hr'.junk (b := b) ?_ ?_ hob.1 hob.2.2 ?_
      · unfold World.freeze
        split
        · exact World.grownBy.refl w _
        · exact ⟨rfl, rfl, rfl, by simp, fun k hk hne => by
            simp only [Array.getElem?_modify]
            rw [if_neg (fun e => hne (by rw [e]))]⟩
      · unfold World.freeze; split <;> simp
      · intro g2 d2 v2 k1 k2 k3
        by_cases he2 : d2 = g' ∧ g2 = g
        · obtain ⟨rfl, rfl⟩ := he2
          simp [St.set, updO, Ob.live] at k2
        · have k2' : (st.obj g2 d2).live = true := by simpa [St.set, updO, he2] using k2
          have := hr.dis g2 d2 g g' v2 _ b k1 h3 k2' (by rw [ho]; rfl) k3 rfl
          exact he2 ⟨this.2, this.1⟩
    have hex : (execOp a.eval o).run c.P w = .ok (.value (.string ⟨bs.toArray⟩)) (w.freeze ⟨b, 0, none⟩ bs.length) := by
      simp only [execOp, hop, resolve, invoke, builtin, Sem.run_bind, Sem.run_pure, Result.andThen_ok, List.map_toArray, List.map_cons, List.map_nil, h4, h2, hrun]
    refine wpIn_of_run (not_defer_of_value hex) hex ?_
    rw [Oper.uponIn_value, hd]
    exact hk S _ _ _ (hr2.put hn (by rw [VR, RL]))
end
section
variable {P : Program} {w0 : World} {S0 : Nat → Prop} {nt : Nat} {frs : Frs} {e : Nat → V} {ob : Nat → Nat → Ob} {g : Nat} {Q : Exit → Act → World → Prop} {ops : Array Oper} {rest : List Oper} {d : Nat} {ty : TypeId} {pos : String} {aft : Array Edge} {m : Md}
theorem p_ptrNil {t t' te : TypeId} {x : Operand} (hn : d < nt := by decide) (ht : P.underlying t = some (.pointer te)) (hx : evE e x = .any (.pointer none) := by exact eV_) (h : Wk (m.log ⟨some (d, (.bool true)), [], []⟩) ⟨P, w0, S0, nt, frs⟩ ops Q ⟨upd e d (.bool true), ob, g⟩ rest) : Wk m ⟨P, w0, S0, nt, frs⟩ ops Q ⟨e, ob, g⟩ (⟨some d, .binOp .eql t x (.const (.pointer none)) t', ty, pos, aft, none⟩ :: rest) :=
  Wk.op (Loc.plain rfl rfl fun st' hv' ho' hg => Stp.ptrNil rfl hn rfl ht (.inl ⟨(hv' x (by simp [Op.operands, Call.operands])).trans ((evE_eq e ob g x).trans hx), rfl⟩)) h
theorem p_ptrNotNil {t t' te : TypeId} {x : Operand} {g1 d1 p : Nat} (hn : d < nt := by decide) (ht : P.underlying t = some (.pointer te)) (hx : evE e x = .ptr g1 d1 p := by exact eV_) (h : Wk (m.log ⟨some (d, (.bool false)), [], []⟩) ⟨P, w0, S0, nt, frs⟩ ops Q ⟨upd e d (.bool false), ob, g⟩ rest) : Wk m ⟨P, w0, S0, nt, frs⟩ ops Q ⟨e, ob, g⟩ (⟨some d, .binOp .eql t x (.const (.pointer none)) t', ty, pos, aft, none⟩ :: rest) :=
  Wk.op (Loc.plain rfl rfl fun st' hv' ho' hg => Stp.ptrNil rfl hn rfl ht (.inr ⟨⟨_, _, _, (hv' x (by simp [Op.operands, Call.operands])).trans ((evE_eq e ob g x).trans hx)⟩, rfl⟩)) h
theorem p_ptrSame {t t' te : TypeId} {x y : Operand} {g1 d1 p : Nat} {z : Value} {size bytes : Nat} (hn : d < nt := by decide) (ht : P.underlying t = some (.pointer te)) (hi : TI P te z size bytes) (hx : evE e x = .ptr g1 d1 p := by exact eV_) (hy : evE e y = .ptr g1 d1 p := by exact eV_) (h : Wk (m.log ⟨some (d, (.bool false)), [], []⟩) ⟨P, w0, S0, nt, frs⟩ ops Q ⟨upd e d (.bool false), ob, g⟩ rest) : Wk m ⟨P, w0, S0, nt, frs⟩ ops Q ⟨e, ob, g⟩ (⟨some d, .binOp .neq t x y t', ty, pos, aft, none⟩ :: rest) :=
  Wk.op (Loc.plain rfl rfl fun st' hv' ho' hg => Stp.ptrSame rfl hn rfl ht hi.get.choose_spec.1 ((hv' x (by simp [Op.operands, Call.operands])).trans ((evE_eq e ob g x).trans hx)) ((hv' y (by simp [Op.operands, Call.operands])).trans ((evE_eq e ob g y).trans hy))) h
theorem p_toUnsafe {src dst t te : TypeId} {x : Operand} {g1 d1 p : Nat} {cs : List V} {z : Value} {size bytes : Nat} (hn : d < nt := by decide) (hs : P.underlying src = some (.pointer t)) (hdst : P.underlying dst = some .unsafePointer) (hi : TI P t z size bytes) (hj : size ≠ 0 := by decide) (hx : evE e x = .ptr g1 d1 p := by exact eV_) (ho : ob g1 d1 = .cells te cs := by exact oB_) (hp : p < cs.length := by simp) (h : Wk (m.log ⟨some (d, (.ptr g1 d1 p)), [], [(g1, d1)]⟩) ⟨P, w0, S0, nt, frs⟩ ops Q ⟨upd e d (.ptr g1 d1 p), ob, g⟩ rest) : Wk m ⟨P, w0, S0, nt, frs⟩ ops Q ⟨e, ob, g⟩ (⟨some d, .convert src dst x, ty, pos, aft, none⟩ :: rest) :=
  Wk.op (Loc.plain rfl rfl fun st' hv' ho' hg => Stp.toUnsafe rfl hn rfl hs hdst hi.get.choose_spec.1 (by rw [hi.get.choose_spec.2.2.1]; exact hj) ((hv' x (by simp [Op.operands, Call.operands])).trans ((evE_eq e ob g x).trans hx)) ((ho' (g1, d1) (by simp)).trans ho) hp) h
theorem p_fromUnsafe {src dst t te : TypeId} {x : Operand} {g1 d1 p : Nat} {cs : List V} {z : Value} {size bytes : Nat} (hn : d < nt := by decide) (hs : P.underlying src = some .unsafePointer) (hdst : P.underlying dst = some (.pointer t)) (hi : TI P t z size bytes) (hx : evE e x = .ptr g1 d1 p := by exact eV_) (ho : ob g1 d1 = .cells te cs := by exact oB_) (hlies : liesAt P P.depth te (cs.length / P.cellsOf te) p t 1 = true) (h : Wk (m.log ⟨some (d, (.ptr g1 d1 p)), [], [(g1, d1)]⟩) ⟨P, w0, S0, nt, frs⟩ ops Q ⟨upd e d (.ptr g1 d1 p), ob, g⟩ rest) : Wk m ⟨P, w0, S0, nt, frs⟩ ops Q ⟨e, ob, g⟩ (⟨some d, .convert src dst x, ty, pos, aft, none⟩ :: rest) :=
  Wk.op (Loc.plain rfl rfl fun st' hv' ho' hg => Stp.fromUnsafe rfl hn rfl hs hdst hi.get.choose_spec.1 ((hv' x (by simp [Op.operands, Call.operands])).trans ((evE_eq e ob g x).trans hx)) ((ho' (g1, d1) (by simp)).trans ho) hlies) h
theorem p_sliceData {t : TypeId} {x : Operand} {ts : Array TypeId} {g1 d1 n : Nat} {bs : List UInt8} (hn : d < nt := by decide) (hx : evE e x = .row g1 d1 n := by exact eV_) (ho : ob g1 d1 = .row t (bs.map byV) := by exact oB_) (hne : bs ≠ []) (h : Wk (m.log ⟨some (d, (.rptr t g1 d1 0 0)), [], [(g1, d1)]⟩) ⟨P, w0, S0, nt, frs⟩ ops Q ⟨upd e d (.rptr t g1 d1 0 0), ob, g⟩ rest) : Wk m ⟨P, w0, S0, nt, frs⟩ ops Q ⟨e, ob, g⟩ (⟨some d, .call { callee := .builtin .unsafeSliceData, args := #[x], argTypes := ts }, ty, pos, aft, none⟩ :: rest) :=
  Wk.op (Loc.plain rfl rfl fun st' hv' ho' hg => Stp.sliceData (ty' := 0) rfl hn rfl ((hv' x (by simp [Op.operands, Call.operands])).trans ((evE_eq e ob g x).trans hx)) ((ho' (g1, d1) (by simp)).trans ho) hne) h
theorem p_sliceDataNil {x : Operand} {ts : Array TypeId} (hn : d < nt := by decide) (hx : evE e x = .nil := by exact eV_) (h : Wk (m.log ⟨some (d, (.any (.pointer none))), [], []⟩) ⟨P, w0, S0, nt, frs⟩ ops Q ⟨upd e d (.any (.pointer none)), ob, g⟩ rest) : Wk m ⟨P, w0, S0, nt, frs⟩ ops Q ⟨e, ob, g⟩ (⟨some d, .call { callee := .builtin .unsafeSliceData, args := #[x], argTypes := ts }, ty, pos, aft, none⟩ :: rest) :=
  Wk.op (Loc.plain rfl rfl fun st' hv' ho' hg => Stp.sliceDataNil rfl hn rfl ((hv' x (by simp [Op.operands, Call.operands])).trans ((evE_eq e ob g x).trans hx))) h
theorem p_uStringNil {x y : Operand} {pt it : TypeId} (hn : d < nt := by decide) (hx : evE e x = .any (.pointer none) := by exact eV_) (hy : evE e y = .int .i64 0 := by exact eV_) (h : Wk (m.log ⟨some (d, (.str ⟨#[]⟩)), [], []⟩) ⟨P, w0, S0, nt, frs⟩ ops Q ⟨upd e d (.str ⟨#[]⟩), ob, g⟩ rest) : Wk m ⟨P, w0, S0, nt, frs⟩ ops Q ⟨e, ob, g⟩ (⟨some d, .call { callee := .builtin .unsafeString, args := #[x, y], argTypes := #[pt, it] }, ty, pos, aft, none⟩ :: rest) :=
  Wk.op (Loc.plain rfl rfl fun st' hv' ho' hg => Stp.uStringNil rfl hn rfl ((hv' x (by simp [Op.operands, Call.operands])).trans ((evE_eq e ob g x).trans hx)) ((hv' y (by simp [Op.operands, Call.operands])).trans ((evE_eq e ob g y).trans hy))) h
theorem p_uString {x y : Operand} {pt it t : TypeId} {g1 d1 n : Nat} {bs : List UInt8} (hn : d < nt := by decide) (hp : P.underlying pt = some (.pointer t)) (he : P.cellsOf t = 1) (hx : evE e x = .rptr t g1 d1 0 0 := by exact eV_) (hy : evE e y = .int .i64 n := by exact eV_) (hnl : n = bs.length) (ho : ob g1 d1 = .row t (bs.map byV) := by exact oB_) (hne : bs ≠ []) (h : Wk (m.log ⟨some (d, (.str ⟨bs.toArray⟩)), [(g1, d1, .dead)], [(g1, d1)]⟩) ⟨P, w0, S0, nt, frs⟩ ops Q ⟨upd e d (.str ⟨bs.toArray⟩), updO ob g1 d1 .dead, g⟩ rest) : Wk m ⟨P, w0, S0, nt, frs⟩ ops Q ⟨e, ob, g⟩ (⟨some d, .call { callee := .builtin .unsafeString, args := #[x, y], argTypes := #[pt, it] }, ty, pos, aft, none⟩ :: rest) :=
  Wk.op (Loc.plain rfl rfl fun st' hv' ho' hg => Stp.uString rfl hn rfl hp he ((hv' x (by simp [Op.operands, Call.operands])).trans ((evE_eq e ob g x).trans hx)) ((hv' y (by simp [Op.operands, Call.operands])).trans ((evE_eq e ob g y).trans hy)) hnl ((ho' (g1, d1) (by simp)).trans ho) hne) h
end
/-! ### append(b, s...), s a string -/
section
variable {c : Ctx} {st : St} {o : Oper} {d : Nat}
theorem append_str_run {P : Program} {w : World} {base : Nat} {t u e : TypeId} (ty : TypeId) (ht : P.underlying t = some (.slice e)) (hu : P.underlying u = some .string) (hi : TI P e (.int .u8 0) 1 1) {v : Value} {n : Nat} {xs : List Value} (hown : w.ownsRow base e 1 v n xs) (s : ByteArray) (hbytes : n + s.size ≤ 140737488355328) (hbase : base ≤ w.heap.size) :
    ∃ v' w', (Builtin.append_ #[t, u] ty #[v, .string s]).run P w = .ok v' w' ∧ w'.ownsRow base e 1 v' (n + s.size) (xs ++ Lib.strCells s) ∧ w.grownBy w' v.ownBlock ∧ (v'.ownBlock = v.ownBlock ∨ v'.ownBlock = some w.heap.size) := by
  obtain ⟨i, hi1, hi2, hi3, hi4⟩ := hi.get
  obtain ⟨v', w', r1, r2, r3, r4⟩ := Lib.run_append_own_string w base t u ty e i ht hu hi1 hi2 hi3 hi4 v n xs hown s (by simp only [maxLen]; omega) hbytes hbase
  refine ⟨v', w', r1, r2, r3, ?_⟩
  have hxl : xs.length = n := by simpa using hown.1
  rcases hown.2 with ⟨rfl, rfl⟩ | ⟨g, cap, cur, rfl, hbg, hg, hnc, hcm, hcs, htake⟩
  · by_cases hm : s.size = 0
    · left
      rw [r4.2 ⟨rfl, hm⟩]
    · right
      have hr := run_append_nil_string (P := P) w t u ty e i (.int .u8 0) ht hu hi1 hi2 s (by omega) (by omega) (by rw [hi4]; omega)
      rw [r1] at hr
      simp only [Result.ok.injEq] at hr
      rw [hr.1]; rfl
  · have hcs' : cur.size = cap := by simpa using hcs
    by_cases hroom : n + s.size ≤ cap
    · left
      have hr := Lib.run_append_room_string (P := P) w t u ty e i ht hu hi1 hi3 g n cap cur hg s hroom (by omega)
      rw [r1] at hr
      simp only [Result.ok.injEq] at hr
      rw [hr.1]; rfl
    · right
      have holds : ∀ j u, xs[j]? = some u → w.cell? ((⟨g, 0, none⟩ : Addr).add j) = some u := World.ownsRow.cells (base := base) (e := e) (size := 1) (v := .slice (some ⟨g, 0, none⟩) n cap) (n := n) ⟨hown.1, .inr ⟨g, cap, cur, rfl, hbg, hg, hnc, hcm, hcs, htake⟩⟩ (g := g) rfl
      have hr := Lib.run_append_grow_string (P := P) w t u ty e i (.int .u8 0) ht hu hi1 hi2 ⟨g, 0, none⟩ n cap xs (by rw [hi3]; simpa using hxl) holds s (by omega) (by simp only [maxLen] at hcm; omega) (by rw [hi4]; exact growslice_fits (by omega) (by omega))
      rw [r1] at hr
      simp only [Result.ok.injEq] at hr
      rw [hr.1]; rfl
theorem strCells_flat {P : Program} {w : World} {S : Nat → Prop} {e : TypeId} (he : P.cellsOf e = 1) (s : ByteArray) : Flat P w S e (s.data.toList.map byV) (Lib.strCells s) :=
  (Flat_enc (α := UInt8) (enc := fun x => Value.int .u8 x.toNat) he (fun z cs => by
    constructor
    · intro h; simp only [byV, RX, RL] at h; obtain ⟨u, rfl, h⟩ := h; rw [h]
    · rintro rfl; simp only [byV, RX, RL]; exact ⟨_, rfl, rfl⟩) s.data.toList _).2 rfl
theorem appendS_aux {S : Nat → Prop} {at_ : At} {a : Act} {w : World} (h : Rel c S at_ st a w) {t u e : TypeId} (ty : TypeId) (ht : c.P.underlying t = some (.slice e)) (hu : c.P.underlying u = some .string) (hi : TI c.P e (.int .u8 0) 1 1)
    {v : Value} {xs : List V} {s : ByteArray} {flat : List Value} (hown : w.ownsRow c.w0.heap.size e 1 v xs.length flat) (hflat : Flat c.P w S e xs flat)
    (hnl : ∀ b, blkOf v = some b → ¬ S b ∧ ∀ g' d' v', at_ g' d' = some v' → (st.obj g' d').live = true → blkOf v' ≠ some b) (hbytes : xs.length + s.size ≤ 140737488355328) (hnone : st.obj st.gen d = .none) :
    ∃ v' w', (Builtin.append_ #[t, u] ty #[v, .string s]).run c.P w = .ok v' w' ∧ Rel c S (updA at_ st.gen d v') (st.set st.gen d (.row e (xs ++ s.data.toList.map byV))) a w' ∧ VR c.P w' S (updA at_ st.gen d v') (.row st.gen d (xs.length + s.size)) v' := by
  have hcz := hi.cells
  obtain ⟨v', w', r1, r2, r3, r4⟩ := append_str_run (P := c.P) ty ht hu hi hown s hbytes h.below.size
  have hb1 := ownBlock_blk hown
  have hb2 := ownBlock_blk r2
  rw [hb1] at r3 r4
  rw [hb2] at r4
  have hwS : ∀ k, S k → w'.heap[k]? = w.heap[k]? := fun k hk => r3.block k (h.slt k hk) (fun e => (hnl k e.symm).1 hk)
  refine ⟨v', w', r1, h.newObj hnone r3.os r3.tape r3.output r3.size ?_ ?_ rfl ⟨flat ++ Lib.strCells s, ?_, ?_⟩, ?_⟩
  · rintro k hk (h1 | h1 | ⟨g', d', v2, h1, h2, h3⟩)
    · refine r3.block k hk fun e => ?_
      have := ownsRow_base' (h := hown) k (by rw [hb1]; exact e.symm)
      omega
    · exact hwS k h1
    · exact r3.block k hk fun e => (hnl k e.symm).2 g' d' v2 h1 h2 h3
  · intro b hb
    have hbase : c.w0.heap.size ≤ b := ownsRow_base' (h := r2) b (by rw [hb2]; exact hb)
    have hlt : b < w'.heap.size := by
      rcases r2.2 with ⟨rfl, _⟩ | ⟨g, cap, cur, rfl, _, hh, _⟩
      · simp [blkOf] at hb
      · simp only [blkOf, Option.some.injEq] at hb
        subst hb
        exact (Array.getElem?_eq_some_iff.1 hh).1
    rcases r4 with r4 | r4
    · rw [r4] at hb
      exact ⟨hbase, hlt, (hnl b hb).1, (hnl b hb).2⟩
    · rw [r4] at hb
      cases hb
      exact ⟨hbase, hlt, fun hs => absurd (h.slt _ hs) (by omega), fun g' d' v2 h1 h2 h3 => absurd (h.own g' d' v2 _ h1 h2 h3).2.1 (by omega)⟩
  · rw [hcz, List.length_append, List.length_map, show s.data.toList.length = s.size by rw [Array.length_toList]; rfl]; exact r2
  · exact Flat.mono (fun _ h => h) hwS e _ _ (hflat.append (strCells_flat hcz s))
  · rw [VR]
    rcases r2.2 with ⟨rfl, h5⟩ | ⟨g, cap, cur, rfl, _⟩
    · exact ⟨none, 0, 0, by simp [updA], by omega, by rw [h5]⟩
    · exact ⟨_, _, _, by simp [updA], Nat.le_refl _, rfl⟩
theorem Stp.appendSNil {t u e : TypeId} {x y : Operand} {s : ByteArray} (hd : o.dst = some d) (hn : d < c.nt) (hop : o.op = .call { callee := .builtin .append, args := #[x, y], argTypes := #[t, u] }) (ht : c.P.underlying t = some (.slice e)) (hu : c.P.underlying u = some .string) (hi : TI c.P e (.int .u8 0) 1 1)
    (hx : st.ev x = .nil) (hy : st.ev y = .str s) (hlim : s.size ≤ 140737488355328) (hnone : st.obj st.gen d = .none) : Stp c o st ((st.set st.gen d (.row e (s.data.toList.map byV))).put d (.row st.gen d s.size)) := by
  intro S at_ a w hr next Q hk
  have h1 := hr.ev x
  have h2 := hr.ev y
  rw [hx, VR, RL] at h1
  rw [hy, VR, RL] at h2
  obtain ⟨v', w', r1, r2, r3⟩ := appendS_aux (xs := []) hr o.type ht hu hi (v := .slice none 0 0) (s := s) (flat := []) ⟨by simp, .inl ⟨rfl, rfl⟩⟩ rfl (fun b hb => by simp [blkOf] at hb) (by simpa using hlim) hnone
  have : (execOp a.eval o).run c.P w = .ok (.value v') w' := by
    simp only [execOp, hop, resolve, invoke, builtin, Sem.run_bind, Sem.run_pure, Result.andThen_ok, List.map_toArray, List.map_cons, List.map_nil, h1, h2, r1]
  refine wpIn_of_run (not_defer_of_value this) this ?_
  rw [Oper.uponIn_value, hd]
  simp only [List.length_nil, Nat.zero_add, List.nil_append] at r2 r3
  exact hk S _ _ _ (r2.put hn r3)
theorem Stp.appendS {t u e : TypeId} {x y : Operand} {g g' : Nat} {xs : List V} {s : ByteArray} (hd : o.dst = some d) (hn : d < c.nt) (hop : o.op = .call { callee := .builtin .append, args := #[x, y], argTypes := #[t, u] }) (ht : c.P.underlying t = some (.slice e)) (hu : c.P.underlying u = some .string) (hi : TI c.P e (.int .u8 0) 1 1)
    (hx : st.ev x = .row g g' xs.length) (hobj : st.obj g g' = .row e xs) (hy : st.ev y = .str s) (hlim : xs.length + s.size ≤ 140737488355328) (hnone : st.obj st.gen d = .none) :
    Stp c o st (((st.set g g' .dead).set st.gen d (.row e (xs ++ s.data.toList.map byV))).put d (.row st.gen d (xs.length + s.size))) := by
  intro S at_ a w hr next Q hk
  have h1 := hr.ev x
  have h2 := hr.ev y
  rw [hx, VR] at h1
  rw [hy, VR, RL] at h2
  obtain ⟨A, m, cp, h3, h4, h5⟩ := h1
  have h6 := hr.ok g g' _ h3
  rw [hobj] at h6
  obtain ⟨flat, h7, h8⟩ := h6
  have hm : m = xs.length := by
    rcases h7.2 with ⟨e1, e2⟩ | ⟨_, _, _, e1, _⟩
    · cases e1; exact e2.symm
    · cases e1; rfl
  subst hm
  have hr' := hr.kill h3 (by rw [hobj]; simp)
  have hcz := hi.cells
  rw [hcz] at h7
  have hne : ¬ (d = g' ∧ st.gen = g) := by
    rintro ⟨rfl, rfl⟩
    rw [hobj] at hnone; cases hnone
  obtain ⟨v', w', r1, r2, r3⟩ := appendS_aux hr' o.type ht hu hi (v := .slice A xs.length cp) (s := s) h7 h8 (fun b hb => by
    have hown := hr.own g g' _ b h3 (by rw [hobj]; rfl) hb
    refine ⟨hown.2.2, fun g2 d2 v2 k1 k2 k3 => ?_⟩
    by_cases he : d2 = g' ∧ g2 = g
    · obtain ⟨rfl, rfl⟩ := he
      simp [St.set, updO, Ob.live] at k2
    · have k2' : (st.obj g2 d2).live = true := by simpa [St.set, updO, he] using k2
      have := hr.dis g2 d2 g g' v2 _ b k1 h3 k2' (by rw [hobj]; rfl) k3 hb
      exact he ⟨this.2, this.1⟩) hlim (show (st.set g g' .dead).obj st.gen d = .none by simp only [St.set, updO, if_neg hne]; exact hnone)
  have : (execOp a.eval o).run c.P w = .ok (.value v') w' := by
    simp only [execOp, hop, resolve, invoke, builtin, Sem.run_bind, Sem.run_pure, Result.andThen_ok, List.map_toArray, List.map_cons, List.map_nil, h5, h2, r1]
  refine wpIn_of_run (not_defer_of_value this) this ?_
  rw [Oper.uponIn_value, hd]
  exact hk S _ _ _ (r2.put hn r3)
end
section
variable {P : Program} {w0 : World} {S0 : Nat → Prop} {nt : Nat} {frs : Frs} {e : Nat → V} {ob : Nat → Nat → Ob} {g : Nat} {Q : Exit → Act → World → Prop} {ops : Array Oper} {rest : List Oper} {d : Nat} {ty : TypeId} {pos : String} {aft : Array Edge} {m : Md}
theorem p_appendSNil {t u t' : TypeId} {x y : Operand} {s : ByteArray} (hn : d < nt := by decide) (hf : ob g d = .none := by repeat (first | exact hf _ | with_reducible rfl | rw [updO_off (by decide)])) (ht : P.underlying t = some (.slice t')) (hu : P.underlying u = some .string) (hi : TI P t' (.int .u8 0) 1 1) (hx : evE e x = .nil := by exact eV_) (hy : evE e y = .str s := by exact eV_) (hlim : s.size ≤ 140737488355328)
    (h : Wk (m.log ⟨some (d, .row g d s.size), [(g, d, .row t' (s.data.toList.map byV))], [(g, d)]⟩) ⟨P, w0, S0, nt, frs⟩ ops Q ⟨upd e d (.row g d s.size), updO ob g d (.row t' (s.data.toList.map byV)), g⟩ rest) : Wk m ⟨P, w0, S0, nt, frs⟩ ops Q ⟨e, ob, g⟩ (⟨some d, .call { callee := .builtin .append, args := #[x, y], argTypes := #[t, u] }, ty, pos, aft, none⟩ :: rest) :=
  Wk.op (Loc.plain rfl rfl fun st' hv ho' hg => by
    obtain ⟨e', ob', g'⟩ := st'
    obtain rfl : g = g' := hg.symm
    exact Stp.appendSNil (st := ⟨e', ob', g⟩) rfl hn rfl ht hu hi ((hv x (by simp [Op.operands, Call.operands])).trans ((evE_eq e ob g x).trans hx)) ((hv y (by simp [Op.operands, Call.operands])).trans ((evE_eq e ob g y).trans hy)) hlim ((ho' (g, d) (by simp)).trans hf)) h
theorem p_appendS {t u t' g1 d1 n : Nat} {x y : Operand} {xs : List V} {s : ByteArray} (hn : d < nt := by decide) (hf : ob g d = .none := by repeat (first | exact hf _ | with_reducible rfl | rw [updO_off (by decide)])) (ht : P.underlying t = some (.slice t')) (hu : P.underlying u = some .string) (hi : TI P t' (.int .u8 0) 1 1) (hx : evE e x = .row g1 d1 n := by exact eV_) (ho : ob g1 d1 = .row t' xs := by exact oB_) (hnl : n = xs.length) (hy : evE e y = .str s := by exact eV_) (hlim : n + s.size ≤ 140737488355328)
    (h : Wk (m.log ⟨some (d, .row g d (n + s.size)), [(g1, d1, .dead), (g, d, .row t' (xs ++ s.data.toList.map byV))], [(g1, d1), (g, d)]⟩) ⟨P, w0, S0, nt, frs⟩ ops Q ⟨upd e d (.row g d (n + s.size)), updO (updO ob g1 d1 .dead) g d (.row t' (xs ++ s.data.toList.map byV)), g⟩ rest) : Wk m ⟨P, w0, S0, nt, frs⟩ ops Q ⟨e, ob, g⟩ (⟨some d, .call { callee := .builtin .append, args := #[x, y], argTypes := #[t, u] }, ty, pos, aft, none⟩ :: rest) := by
  subst hnl
  refine Wk.op (Loc.plain rfl rfl fun st' hv ho' hg => ?_) h
  obtain ⟨e', ob', g'⟩ := st'
  obtain rfl : g = g' := hg.symm
  exact Stp.appendS (st := ⟨e', ob', g⟩) rfl hn rfl ht hu hi ((hv x (by simp [Op.operands, Call.operands])).trans ((evE_eq e ob g x).trans hx)) ((ho' (g1, d1) (by simp)).trans ho) ((hv y (by simp [Op.operands, Call.operands])).trans ((evE_eq e ob g y).trans hy)) hlim ((ho' (g, d) (by simp)).trans hf)
end
/-! ### What is only read: parts of a row, nil -/
section
variable {P : Program} {w : World} {S : Nat → Prop}
theorem RLrow.take {e : TypeId} {ad : Addr} : ∀ {i : Nat} {xs : List V} (m : Nat), RLrow P w S e ad i xs → RLrow P w S e ad i (xs.take m)
  | _, [], m, _ => by simp [RLrow]
  | _, _ :: _, 0, _ => by simp [RLrow]
  | i, x :: xs, m + 1, h => by
    rw [List.take_succ_cons, RLrow_cons]
    rw [RLrow_cons] at h
    exact ⟨h.1, RLrow.take m h.2⟩
end
section
variable {P : Program} {w0 : World} {S0 : Nat → Prop} {nt : Nat} {frs : Frs} {e : Nat → V} {ob : Nat → Nat → Ob} {g : Nat} {K : Act → World → Prop}
/-- The head of a frozen slice is one that is only read. -/
theorem p_toSlT {s t g1 d1 n : Nat} {xs : List V} (hs : e s = .row g1 d1 n := by exact eV_) (ho : ob g1 d1 = .froz t xs := by exact oB_) (hn : n ≤ xs.length) (h : Tr ⟨P, w0, S0, nt, frs⟩ ⟨upd e s (.sl t (xs.take n)), ob, g⟩ K) : Tr ⟨P, w0, S0, nt, frs⟩ ⟨e, ob, g⟩ K := by
  intro S at_ a w hr
  refine h S _ a w (hr.slotV (s := s) fun x hx => ?_)
  rw [show (⟨e, ob, g⟩ : St).env s = .row g1 d1 n from hs, VR] at hx
  obtain ⟨A, m, cp, h1, h2, rfl⟩ := hx
  have := hr.ok g1 d1 _ h1
  rw [show (⟨e, ob, g⟩ : St).obj g1 d1 = .froz t xs from ho] at this
  simp only [ObOk, RL] at this
  obtain ⟨A', cp', h3, h4, h5⟩ := this
  cases h3
  rw [VR, RL]
  refine ⟨A, cp, by simp [Nat.min_eq_left hn], by simp; omega, ?_⟩
  rcases h5 with h5 | ⟨ad, h6, h7, h8⟩
  · left; subst h5; simp
  · exact .inr ⟨ad, h6, h7, h8.take n⟩
end
/-! ### Structs that are constants -/
def evC (e : Nat → V) : Operand → V
  | .const v => cw v
  | x => evE e x
section
variable {P : Program} {w0 : World} {S0 : Nat → Prop} {nt : Nat} {frs : Frs} {e : Nat → V} {ob : Nat → Nat → Ob} {g : Nat} {Q : Exit → Act → World → Prop} {ops : Array Oper} {rest : List Oper} {d : Nat} {ty : TypeId} {pos : String} {aft : Array Edge} {m : Md}
theorem p_buildSliceC {t t' : TypeId} {n : Nat} {parts : List (Nat × Operand)} {z : Value} {size bytes : Nat} (vs : List V) (hn : d < nt := by decide) (hf : ob g d = .none := by repeat (first | exact hf _ | with_reducible rfl | rw [updO_off (by decide)])) (ht : P.underlying t = some (.slice t')) (hi : TI P t' z size bytes) (h0 : 0 < size := by decide) (hzs : z.cells.size = size := by exact rfl) (hsmall : n * size ≤ 16777216 := by decide) (hidx : parts.map (·.1) = List.range n := by exact rfl)
    (hvs : parts.map (fun p => evC e p.2) = vs := by exact rfl) (hl : ∀ v ∈ vs, (v.leaf = true ∨ ∃ l, v = .agg l) ∧ v.ro = true ∧ v.cells.length = size := by simp only [List.forall_mem_cons, List.not_mem_nil, false_implies, implies_true, and_true]; and_intros <;> first | rfl | exact .inl rfl | exact .inr ⟨_, rfl⟩) (h : Wk (m.log ⟨some (d, .row g d n), [(g, d, .row t' vs)], [(g, d)]⟩) ⟨P, w0, S0, nt, frs⟩ ops Q ⟨upd e d (.row g d n), updO ob g d (.row t' vs), g⟩ rest) :
    Wk m ⟨P, w0, S0, nt, frs⟩ ops Q ⟨e, ob, g⟩ (⟨some d, .buildSlice t n parts.toArray, ty, pos, aft, none⟩ :: rest) :=
  Wk.op (Loc.plain rfl rfl fun st' h1 ho' hg => by
    obtain ⟨e', ob', g'⟩ := st'
    obtain rfl : g = g' := hg.symm
    refine Stp.buildSliceF (st := ⟨e', ob', g⟩) (fun x => evC e' x) (fun S at_ a w hr x => ?_) rfl hn rfl ht hi h0 hzs hsmall ((ho' (g, d) (by simp)).trans hf) (by simpa using hidx) ?_ hl
    · cases x with
      | const v => exact VR_cw v
      | tmp s => exact hr.ev (.tmp s)
      | func f => exact hr.ev (.func f)
      | global k => exact hr.ev (.global k)
    · rw [← hvs]
      refine List.map_congr_left fun p hp => ?_
      obtain ⟨i, x⟩ := p
      have h2 := h1 x (by simp only [Op.operands]; simpa using ⟨i, hp⟩)
      cases x with
      | const v => rfl
      | tmp s => exact h2
      | func f => rfl
      | global k => rfl) h
end
end Go.Proofs.YtjjpmbaddpiamaaDoor
