/-
  The abstract machine: strings gone through letter by letter.
-/
import Derived.Test.YtjjpmbaddpiamaaDoorZ13
import Derived.Laws.RangeAny
set_option linter.unusedSimpArgs false
set_option linter.unusedVariables false
namespace Go.Proofs.YtjjpmbaddpiamaaDoor
open Go.RowKit
theorem Stp.rangeS {c : Ctx} {st : St} {o : Oper} {d : Nat} {t : TypeId} {x : Operand} {s : ByteArray} (hd : o.dst = some d) (hn : d < c.nt) (hop : o.op = .range t x) (ht : c.P.underlying t = some .string) (hx : st.ev x = .str s) (hnone : st.obj st.gen d = .none) : Stp c o st ((st.set st.gen d (.sit s 0)).put d (.ptr st.gen d 0)) :=
  Stp.fresh hd hn hnone rfl fun S at_ a w hr => by
    have h1 := hr.ev x
    rw [hx, VR, RL] at h1
    refine ⟨.stringIter s 0, .pointer (some ⟨w.heap.size, 0, none⟩), .pointer (some ⟨w.heap.size, 0, none⟩), ?_, rfl, ⟨w.heap.size, rfl, heap_new w _⟩, ?_⟩
    · simp [execOp, hop, h1, run_range_string w t s ht, World.iter, Result.andThen]
    · rw [VR]; exact ⟨_, by simp [updA], rfl⟩
theorem run_nextS {P : Program} {w : World} {b : Nat} {s : ByteArray} {pos : Nat} (ty : TypeId) (h : w.heap[b]? = some (.stringIter s pos)) :
    (Instr.next (.pointer (some ⟨b, 0, none⟩)) true ty).run P w = if pos < s.size then .ok (.tuple #[.bool true, .int .i64 pos, .int .i32 (Utf8.decode s pos).1]) (w.putObj b (.stringIter s (pos + (Utf8.decode s pos).2))) else .ok (.tuple #[.bool false]) w := by
  split
  · rename_i hp
    simp [Instr.next, getObj, setObj, Sem.run_bind, Sem.run, h, Result.andThen, hp, goInt, World.putObj]
  · rename_i hp
    simp [Instr.next, getObj, Sem.run, h, hp]
/-- What comes next of a string: the letter c takes wd bytes. -/
theorem Stp.nextS {c : Ctx} {st : St} {o : Oper} {d g1 d1 : Nat} {x : Operand} {s : ByteArray} {pos : Nat} (hd : o.dst = some d) (hn : d < c.nt) (hop : o.op = .next x true) (hx : st.ev x = .ptr g1 d1 0) (ho : st.obj g1 d1 = .sit s pos) (hp : pos < s.size) :
    Stp c o st ((st.set g1 d1 (.sit s (pos + (Utf8.decode s pos).2))).put d (.tup [.bool true, .int .i64 pos, .int .i32 (Utf8.decode s pos).1])) := by
  intro S at_ a w hr next Q hk
  have h1 := hr.ev x
  rw [hx, VR] at h1
  obtain ⟨b, h3, h4⟩ := h1
  have h5 := hr.ok g1 d1 _ h3
  rw [ho] at h5
  obtain ⟨b', e, h6⟩ := h5
  cases e
  obtain ⟨o1, o2, o3⟩ := hr.own g1 d1 _ b h3 (by rw [ho]; rfl) rfl
  have hrun : (execOp a.eval o).run c.P w = .ok (.value (.tuple #[.bool true, .int .i64 pos, .int .i32 (Utf8.decode s pos).1])) (w.putObj b (.stringIter s (pos + (Utf8.decode s pos).2))) := by
    simp [execOp, hop, h4, run_nextS o.type h6, hp, Result.andThen]
  refine wpIn_of_run (not_defer_of_value hrun) hrun ?_
  rw [Oper.uponIn_value, hd]
  have hr2 : Rel c S at_ (st.set g1 d1 (.sit s (pos + (Utf8.decode s pos).2))) a (w.putObj b (.stringIter s (pos + (Utf8.decode s pos).2))) :=
    hr.write h3 (by rw [ho]; rfl) (b := b) rfl ⟨rfl, rfl, rfl, by simp, fun k _ hk => World.putObj_heap_other (fun e => hk (by rw [e]))⟩ (by simp) rfl ⟨b, rfl, World.putObj_heap_same o2⟩ (by rw [ho]; simp)
  exact hk S at_ _ _ (hr2.put hn (by rw [VR]; exact ⟨_, rfl, by simp [VRs, VR, RL]⟩))
theorem Stp.endS {c : Ctx} {st : St} {o : Oper} {d g1 d1 : Nat} {x : Operand} {s : ByteArray} {pos : Nat} (hd : o.dst = some d) (hn : d < c.nt) (hop : o.op = .next x true) (hx : st.ev x = .ptr g1 d1 0) (ho : st.obj g1 d1 = .sit s pos) (hp : ¬ pos < s.size) : Stp c o st (st.put d (.tup [.bool false])) :=
  Stp.val hd hn fun S at_ a w hr => by
    have h1 := hr.ev x
    rw [hx, VR] at h1
    obtain ⟨b, h3, h4⟩ := h1
    have h5 := hr.ok g1 d1 _ h3
    rw [ho] at h5
    obtain ⟨b', e, h6⟩ := h5
    cases e
    exact ⟨.tuple #[.bool false], by simp [execOp, hop, h4, run_nextS o.type h6, hp, Result.andThen], by rw [VR]; exact ⟨_, rfl, by simp [VRs, VR, RL]⟩⟩
def Ob.sitN : Ob → Nat
  | .sit _ p => p
  | _ => 0
/-- How many bytes a letter takes, and which it is. -/
theorem dec_low {s : ByteArray} {pos : Nat} (hp : pos < s.size) (h : bt s pos < 128) : ((Utf8.decode s pos).1 : Int) = bt s pos ∧ (Utf8.decode s pos).2 = 1 := by
  have hb := bt_lt hp
  have := decode_ascii s pos hp (by omega)
  rw [this, hb]
  exact ⟨rfl, rfl⟩
theorem dec_high {s : ByteArray} {pos : Nat} (hp : pos < s.size) (h : ¬ bt s pos < 128) : 128 ≤ ((Utf8.decode s pos).1 : Int) ∧ 1 ≤ (Utf8.decode s pos).2 := by
  have hb := bt_lt hp
  have := decode_high s pos hp (by omega)
  exact ⟨by omega, this.2⟩
section
variable {P : Program} {w0 : World} {S0 : Nat → Prop} {nt : Nat} {frs : Frs} {e : Nat → V} {ob : Nat → Nat → Ob} {g : Nat} {Q : Exit → Act → World → Prop} {ops : Array Oper} {rest : List Oper} {d : Nat} {ty : TypeId} {pos : String} {aft : Array Edge} {m : Md}
theorem p_rangeS {t : TypeId} {x : Operand} {s : ByteArray} [ht : StrC P t] (hn : d < nt := by decide) (hf : ob g d = .none := by repeat (first | exact hf _ | with_reducible rfl | rw [updO_off (by decide)])) (hx : evE e x = .str s := by exact eV_) (h : Wk (m.log ⟨some (d, .ptr g d 0), [(g, d, .sit s 0)], [(g, d)]⟩) ⟨P, w0, S0, nt, frs⟩ ops Q ⟨upd e d (.ptr g d 0), updO ob g d (.sit s 0), g⟩ rest) : Wk m ⟨P, w0, S0, nt, frs⟩ ops Q ⟨e, ob, g⟩ (⟨some d, .range t x, ty, pos, aft, none⟩ :: rest) :=
  Wk.op (Loc.plain rfl rfl fun st' hv' ho' hg => by
    obtain ⟨e', ob', g'⟩ := st'
    obtain rfl : g = g' := hg.symm
    exact Stp.rangeS (st := ⟨e', ob', g⟩) rfl hn rfl ht.h ((hv' x (by simp [Op.operands, Call.operands])).trans ((evE_eq e ob g x).trans hx)) ((ho' (g, d) (by simp)).trans hf)) h
theorem p_nextS {x : Operand} {s : ByteArray} {g1 d1 p : Nat} (hn : d < nt := by decide) (hx : evE e x = .ptr g1 d1 0 := by exact eV_) (ho : ob g1 d1 = .sit s p := by exact oB_) (h1 : ∀ (c : Int) (wd : Nat), p < s.size → 1 ≤ wd → (bt s p < 128 → c = bt s p ∧ wd = 1) → (¬ bt s p < 128 → 128 ≤ c) → Wk .lex ⟨P, w0, S0, nt, frs⟩ ops Q ⟨upd e d (.tup [.bool true, .int .i64 p, .int .i32 c]), updO ob g1 d1 (.sit s (p + wd)), g⟩ rest) (h2 : ¬ p < s.size → Wk .lex ⟨P, w0, S0, nt, frs⟩ ops Q ⟨upd e d (.tup [.bool false]), ob, g⟩ rest) (hm : m = .lex := by exact rfl) : Wk m ⟨P, w0, S0, nt, frs⟩ ops Q ⟨e, ob, g⟩ (⟨some d, .next x true, ty, pos, aft, none⟩ :: rest) := by
  subst hm
  by_cases hp : p < s.size
  · have h3 := h1 (Utf8.decode s p).1 (Utf8.decode s p).2 hp (if hb : bt s p < 128 then Nat.le_of_eq (dec_low hp hb).2.symm else (dec_high hp hb).2) (fun hb => dec_low hp hb) (fun hb => (dec_high hp hb).1)
    exact Tr.op rfl (Stp.nextS (st := ⟨e, ob, g⟩) rfl hn rfl ((evE_eq e ob g x).trans hx) ho hp) h3
  · exact Tr.op rfl (Stp.endS (st := ⟨e, ob, g⟩) rfl hn rfl ((evE_eq e ob g x).trans hx) ho hp) (h2 hp)
/-- A call of a function, by a contract that tells of its answer by a property. -/
theorem p_callN {x : Operand} {f : FuncId} {fn : Func} {code : Code} {xs : List Operand} {ts : Array TypeId} {cap vs : List V} {Post : V → Prop} (hm : m = .lex := by exact rfl) (hn : d < nt := by decide) (hx : evE e x = .fn f cap := by simp (decide := true) only [evE, upd, cv, args0, argsFrom, List.length_map, ↓reduceIte, hE] <;> rfl) (hb : HasBody P f fn code) (hvs : xs.map (evE e) ++ cap = vs := by simp (decide := true) only [List.map_cons, List.map_nil, List.cons_append, List.nil_append, List.append_nil, evE, upd, updO, cv, args0, List.getElem?_cons_zero, List.getElem?_cons_succ, Option.getD_some, List.length_map, ↓reduceIte, hE] <;> rfl) (hro : V.outs vs = true := by exact rfl) (hf : FnC P f vs Post) (h : ∀ r, Post r → Wk .lex ⟨P, w0, S0, nt, frs⟩ ops Q ⟨upd e d r, ob, g⟩ rest) : Wk m ⟨P, w0, S0, nt, frs⟩ ops Q ⟨e, ob, g⟩ (⟨some d, .call { callee := .value x, args := xs.toArray, argTypes := ts }, ty, pos, aft, none⟩ :: rest) := by
  subst hm
  exact Tr.call (st := ⟨e, ob, g⟩) rfl rfl hn rfl ((evE_eq e ob g x).trans hx) hb ((congrArg (· ++ cap) (List.map_congr_left fun y _ => (evE_eq e ob g y))).trans hvs) hro hf h
end
/-- A contract of the library's, as one of the machine's. -/
theorem FnC.lib {P : Program} {f : FuncId} {args : List V} (cs0 : List Value) {Post : V → Prop} (ha : ∀ w S cs, VRs P w S (fun _ _ => none) args cs → cs = cs0) (h : ∀ w, Globs w → Calls P f cs0.toArray w fun e w' => ∃ v r, e = .returned v ∧ Below w.heap.size w w' ∧ (∀ S, RV P w' S r v) ∧ Post r) : FnC P f args Post := fun w S cs hg hs hc => by
  obtain rfl := ha w S cs hc
  exact (h w hg).mono fun e w' ⟨v, r, he, hb, hr, hp⟩ => ⟨v, r, S, he, hb, fun _ h => h, fun _ h => .inl h, hr S, hp⟩
theorem VRs_flat1 {P : Program} {w : World} {S : Nat → Prop} {at_ : At} {v : V} {c : Value} {cs : List Value} (h1 : ∀ x, VR P w S at_ v x → x = c) (h : VRs P w S at_ [v] cs) : cs = [c] := by
  match cs, h with
  | [x], h => rw [VRs] at h; rw [h1 x h.1]
  | [], h => simp [VRs] at h
  | _ :: _ :: _, h => simp [VRs] at h
end Go.Proofs.YtjjpmbaddpiamaaDoor
