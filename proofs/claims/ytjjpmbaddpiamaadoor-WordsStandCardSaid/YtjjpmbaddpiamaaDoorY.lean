/-
  The abstract machine: more rules: how many keys a map has; conversions of whole numbers; shifts; bytes as a string; loads and stores of rows of whole numbers.
-/
import Derived.Test.YtjjpmbaddpiamaaDoorL
import Derived.Laws.BytesString
import Derived.Laws.Small
set_option linter.unusedSimpArgs false
set_option linter.unusedVariables false
namespace Go.Proofs.YtjjpmbaddpiamaaDoor
open Go.RowKit
theorem MP.holds_len {m : MP} {arr : Array MapEntry} (h : m.holds arr) : arr.size = m.len := by
  have := congrArg List.length h
  cases m <;> simpa [MP.ent, MP.len] using this
/-- A text of bytes. -/
def bstr (l : List Int) : ByteArray := l.foldl (fun r n => r.push (UInt8.ofNat n.toNat)) ByteArray.empty
theorem bstr_data : ∀ (l : List Int) (s : ByteArray), (l.foldl (fun r n => r.push (UInt8.ofNat n.toNat)) s).data.toList = s.data.toList ++ l.map fun n => UInt8.ofNat n.toNat
  | [], s => by simp
  | n :: l, s => by
    rw [List.foldl_cons, bstr_data l]
    simp [ByteArray.push]
theorem bstr_inj {l l' : List Int} (h : ∀ x ∈ l, 0 ≤ x ∧ x < 256) (h' : ∀ x ∈ l', 0 ≤ x ∧ x < 256) (he : bstr l = bstr l') : l = l' := by
  have h1 := bstr_data l ByteArray.empty
  have h2 := bstr_data l' ByteArray.empty
  unfold bstr at he
  rw [he, h2] at h1
  have h3 : l'.map (fun n => UInt8.ofNat n.toNat) = l.map fun n => UInt8.ofNat n.toNat := by simpa using h1
  have h4 : ∀ (a b : List Int), (∀ x ∈ a, 0 ≤ x ∧ x < 256) → (∀ x ∈ b, 0 ≤ x ∧ x < 256) → a.map (fun n => UInt8.ofNat n.toNat) = b.map (fun n => UInt8.ofNat n.toNat) → a = b := by
    intro a
    induction a with
    | nil => intro b _ _ hb; cases b with
      | nil => rfl
      | cons _ _ => simp at hb
    | cons x a ih =>
      intro b ha hb he
      cases b with
      | nil => simp at he
      | cons y b =>
        simp only [List.map_cons, List.cons.injEq] at he
        have hx := ha x (by simp)
        have hy := hb y (by simp)
        have h5 : (UInt8.ofNat x.toNat).toNat = (UInt8.ofNat y.toNat).toNat := by rw [he.1]
        simp only [UInt8.toNat_ofNat'] at h5
        rw [Nat.mod_eq_of_lt (by omega), Nat.mod_eq_of_lt (by omega)] at h5
        rw [ih b (fun z hz => ha z (by simp [hz])) (fun z hz => hb z (by simp [hz])) he.2]
        congr 1
        omega
  exact h4 l l' h h' h3.symm
/-- A value of a map, structs of simple fields with it. -/
def cw : Value → V
  | .agg arr => .agg (arr.toList.map cv)
  | v => cv v
theorem cv_flat (v : Value) : (cv v).flat = (cv v).flatL := by
  unfold cv
  split <;> first | rfl | (split <;> rfl)
theorem cw_eq {v : Value} (h : ∀ arr, v ≠ .agg arr) : cw v = cv v := by
  cases v <;> first | rfl | exact absurd rfl (h _)
theorem VRs_cvl {P : Program} {w : World} {S : Nat → Prop} {at_ : At} : ∀ l : List Value, VRs P w S at_ (l.map cv) l
  | [] => by simp [VRs]
  | v :: l => by rw [List.map_cons, VRs]; exact ⟨VR_cv v, VRs_cvl l⟩
theorem VR_cw {P : Program} {w : World} {S : Nat → Prop} {at_ : At} (v : Value) : VR P w S at_ (cw v) v := by
  by_cases h : ∃ arr, v = .agg arr
  · obtain ⟨arr, rfl⟩ := h
    rw [cw, VR]; exact ⟨arr, rfl, VRs_cvl _⟩
  · rw [cw_eq fun arr e => h ⟨arr, e⟩]; exact VR_cv v
theorem cvs_val {P : Program} {w : World} {S : Nat → Prop} {at_ : At} : ∀ {l xs : List Value}, VRs P w S at_ (l.map cv) xs → (l.map cv).all V.flatL = true → xs = l
  | [], [], _, _ => rfl
  | [], _ :: _, h, _ => by simp [VRs] at h
  | _ :: _, [], h, _ => by simp [VRs] at h
  | v :: l, x :: xs, h, hf => by
    rw [List.map_cons, VRs] at h
    simp only [List.map_cons, List.all_cons, Bool.and_eq_true] at hf
    rw [cv_val h.1 hf.1, cvs_val h.2 hf.2]
theorem cw_val {P : Program} {w : World} {S : Nat → Prop} {at_ : At} {v x : Value} (h : VR P w S at_ (cw v) x) (hs : (cw v).flat = true) : x = v := by
  by_cases ha : ∃ arr, v = .agg arr
  · obtain ⟨arr, rfl⟩ := ha
    rw [cw, VR] at h
    obtain ⟨arr', rfl, h2⟩ := h
    have := cvs_val h2 hs
    congr 1
    exact Array.toList_inj.1 this
  · have he := cw_eq (v := v) fun arr e => ha ⟨arr, e⟩
    rw [he] at h hs
    rw [cv_flat] at hs
    exact cv_val h hs
section
variable {c : Ctx} {st : St} {o : Oper} {d : Nat}
theorem Stp.lookOwnW {t kt el : TypeId} {x y : Operand} {ok : Bool} {g d1 : Nat} {m : MP} {k : MK} {u v : V} {z : Value} {size bytes : Nat} (hd : o.dst = some d) (hn : d < c.nt) (hop : o.op = .lookup t x y ok) (ht : c.P.underlying t = some (.map kt el)) (hi : TI c.P el z size bytes) (hx : st.ev x = .map g d1) (ho : st.obj g d1 = .map m) (hy : st.ev y = u) (hk : u.key = some k) (hf : k.fits c.P kt m)
    (hv : (if ok then .tup [cw ((m.get k).getD z), .bool (m.get k).isSome] else cw ((m.get k).getD z)) = v) : Stp c o st (st.put d v) :=
  Stp.val hd hn fun S at_ a w hr => by
    have h1 := hr.ev x
    have h2 := hr.ev y
    rw [hx, VR] at h1
    rw [hy] at h2
    obtain ⟨b, h3, h4⟩ := h1
    have h5 := hr.ok g d1 _ h3
    rw [ho] at h5
    obtain ⟨b', arr, clock, e, h6, h7⟩ := h5
    cases e
    have hrun := mapOf_look (P := c.P) (w := w) hf h6 h7 ht (hi.zero w) ok
    rw [← V.key_val hk h2] at hrun
    refine ⟨_, by simp only [execOp, hop, h4, hrun, Sem.run_bind, Sem.run_pure, Result.andThen]; rfl, ?_⟩
    subst hv
    cases ok
    · exact VR_cw _
    · simp only [if_true]
      rw [VR]
      refine ⟨_, rfl, ?_⟩
      simp only [VRs]
      exact ⟨VR_cw _, by rw [VR, RL], trivial⟩
theorem Stp.mapPutW {t kt el : TypeId} {x y z : Operand} {g d1 : Nat} {m : MP} {k : MK} {u : V} {v : Value} (hd : o.dst = none) (hop : o.op = .mapUpdate t x y z ∨ o.op = .insert t x y z) (ht : c.P.underlying t = some (.map kt el)) (hx : st.ev x = .map g d1) (ho : st.obj g d1 = .map m) (hy : st.ev y = u) (hk : u.key = some k) (hf : k.fits c.P kt m) (hz : st.ev z = cw v) (hvf : (cw v).flat = true) : Stp c o st (st.set g d1 (.map (m.put k v))) :=
  Stp.mem hd fun S at_ a w hr => by
    have h1 := hr.ev x
    have h2 := hr.ev y
    have h0 := hr.ev z
    rw [hx, VR] at h1
    rw [hy] at h2
    rw [hz] at h0
    obtain ⟨b, h3, h4⟩ := h1
    have h5 := hr.ok g d1 _ h3
    rw [ho] at h5
    obtain ⟨b', arr, clock, e, h6, h7⟩ := h5
    cases e
    obtain ⟨w', arr', clock', k1, k2, k3, k4, k5⟩ := mapOf_put (P := c.P) (w := w) hf h6 h7 ht v
    rw [← V.key_val hk h2, ← cw_val h0 hvf] at k1
    refine ⟨S, at_, w', ?_, hr.write h3 (by rw [ho]; rfl) (b := b) rfl k4 k5 rfl ⟨b, arr', clock', rfl, k2, k3⟩ (by rw [ho]; simp)⟩
    rcases hop with hop | hop <;> simp [execOp, hop, h4, k1, Result.andThen]
theorem Stp.mapLen {t kt el : TypeId} {x : Operand} {g d1 : Nat} {m : MP} (hd : o.dst = some d) (hn : d < c.nt) (hop : o.op = .call { callee := .builtin .len, args := #[x], argTypes := #[t] }) (ht : c.P.underlying t = some (.map kt el)) (hx : st.ev x = .map g d1) (ho : st.obj g d1 = .map m) : Stp c o st (st.put d (.int .i64 m.len)) :=
  Stp.val hd hn fun S at_ a w hr => by
    have h1 := hr.ev x
    rw [hx, VR] at h1
    obtain ⟨b, h3, h4⟩ := h1
    have h5 := hr.ok g d1 _ h3
    rw [ho] at h5
    obtain ⟨b', arr, clock, e, h6, h7⟩ := h5
    cases e
    refine ⟨.int .i64 m.len, ?_, by rw [VR, RL]⟩
    simp [execOp, hop, resolve, invoke, builtin, h4, Builtin.len_, run_underlying ht, MapKept.run_getObj_map h6, goInt, Result.andThen, MP.holds_len h7]
theorem Stp.eqB {t t' : TypeId} {x y : Operand} {p q : Bool} (hd : o.dst = some d) (hn : d < c.nt) (hop : o.op = .binOp .eql t x y t') (ht : c.P.underlying t = some .bool) (hx : st.ev x = .bool p) (hy : st.ev y = .bool q) : Stp c o st (st.put d (.bool (p == q))) :=
  Stp.val hd hn fun S at_ a w hr => by
    have h1 := hr.ev x
    have h2 := hr.ev y
    rw [hx, VR, RL] at h1
    rw [hy, VR, RL] at h2
    exact ⟨.bool (p == q), by simp [execOp, hop, h1, h2, eqGuard, binOp, run_equal_bool w t p q ht], by rw [VR, RL]⟩
theorem Stp.neB {t t' : TypeId} {x y : Operand} {p q : Bool} (hd : o.dst = some d) (hn : d < c.nt) (hop : o.op = .binOp .neq t x y t') (ht : c.P.underlying t = some .bool) (hx : st.ev x = .bool p) (hy : st.ev y = .bool q) : Stp c o st (st.put d (.bool (!(p == q)))) :=
  Stp.val hd hn fun S at_ a w hr => by
    have h1 := hr.ev x
    have h2 := hr.ev y
    rw [hx, VR, RL] at h1
    rw [hy, VR, RL] at h2
    exact ⟨.bool (!(p == q)), by simp [execOp, hop, h1, h2, eqGuard, binOp, run_equal_bool w t p q ht], by rw [VR, RL]⟩
theorem Stp.minI {t u : TypeId} {x y : Operand} {k : IntKind} {p q : Int} (hd : o.dst = some d) (hn : d < c.nt) (hop : o.op = .call { callee := .builtin .min, args := #[x, y], argTypes := #[t, u] }) (hx : st.ev x = .int k p) (hy : st.ev y = .int k q) : Stp c o st (st.put d (.int k (if q < p then q else p))) :=
  Stp.val hd hn fun S at_ a w hr => by
    have h1 := hr.ev x
    have h2 := hr.ev y
    rw [hx, VR, RL] at h1
    rw [hy, VR, RL] at h2
    exact ⟨.int k (if q < p then q else p), by simp [execOp, hop, resolve, invoke, builtin, h1, h2, Builtin.min_, Builtin.min2], by rw [VR, RL]⟩
theorem Flat.bytes {P : Program} {w : World} {S : Nat → Prop} {e : TypeId} {k : IntKind} : ∀ {l : List Int} {cs : List Value}, Flat P w S e (l.map (V.int k)) cs → cs = l.map (Value.int k)
  | [], cs, h => h
  | n :: l, cs, h => by
    obtain ⟨c1, c2, rfl, _, h3, h4⟩ := h
    simp only [RX, RL] at h3
    obtain ⟨x, rfl, rfl⟩ := h3
    rw [Flat.bytes h4]; rfl
theorem Stp.bytesStr {t t' e : TypeId} {x : Operand} {l : List Int} (hd : o.dst = some d) (hn : d < c.nt) (hop : o.op = .convert t t' x) (ht : c.P.underlying t = some (.slice e)) (he : c.P.underlying e = some (.int .u8)) (ht' : c.P.underlying t' = some .string) {u : V} (hx : st.ev x = u) (hr' : st.rd e u (l.map (V.int .u8))) : Stp c o st (st.put d (.str (bstr l))) :=
  Stp.val hd hn fun S at_ a w hr => by
    have h1 := hr.ev x
    rw [hx] at h1
    obtain ⟨A, cp, h2, news, h3, h4⟩ := St.rd_get hr h1 hr'
    have h5 := Flat.bytes h3
    refine ⟨.string (bstr l), ?_, by rw [VR, RL]⟩
    simp only [execOp, hop, h2, Sem.run_bind, run_convert_bytes_string w t t' e _ _ _ ht he ht', Sem.run_pure]
    rcases h4 with ⟨rfl, h6⟩ | ⟨ad, rfl, h6⟩
    · have h7 : l = [] := by simpa using h6
      subst h7
      simp [Conv.bytesToString, bstr, Result.andThen]
    · have h7 := run_bytesToString (P := c.P) w ad l.length cp l (by
        have := run_loadCells_list (P := c.P) w ad news h6
        rw [h5] at this
        simpa using this)
      simp only [List.length_map, h7, Result.andThen]
      rfl
end
section
variable {P : Program} {w0 : World} {S0 : Nat → Prop} {nt : Nat} {frs : Frs} {e : Nat → V} {ob : Nat → Nat → Ob} {g : Nat} {Q : Exit → Act → World → Prop} {K : Act → World → Prop} {ops : Array Oper} {rest : List Oper} {d : Nat} {ty : TypeId} {pos : String} {aft : Array Edge} {m : Md}
theorem p_mapLen {t kt el : TypeId} {x : Operand} {g1 d1 : Nat} {mp : MP} (hn : d < nt := by decide) (ht : P.underlying t = some (.map kt el)) (hx : evE e x = .map g1 d1 := by simp (decide := true) only [evE, upd, cv, args0, argsFrom, List.length_map, ↓reduceIte, hE] <;> rfl) (ho : ob g1 d1 = .map mp := by simp (decide := true) only [updO, upd, true_and, and_true, false_and, and_false, ↓reduceIte, hE] <;> first | rfl | assumption) (h : Wk (m.log ⟨some (d, .int .i64 mp.len), [], [(g1, d1)]⟩) ⟨P, w0, S0, nt, frs⟩ ops Q ⟨upd e d (.int .i64 mp.len), ob, g⟩ rest) : Wk m ⟨P, w0, S0, nt, frs⟩ ops Q ⟨e, ob, g⟩ (⟨some d, .call { callee := .builtin .len, args := #[x], argTypes := #[t] }, ty, pos, aft, none⟩ :: rest) :=
  Wk.op (Loc.plain rfl rfl fun st' hv' ho' _ => Stp.mapLen (st := st') rfl hn rfl ht ((hv' x (by simp [Op.operands, Call.operands])).trans ((evE_eq e ob g x).trans hx)) ((ho' (g1, d1) (by simp)).trans ho)) h
theorem p_conv {t t' : TypeId} {x : Operand} {k k' : IntKind} {p : Int} {u : TypeDesc} (hn : d < nt := by decide) (hs : P.underlying t = some u) (ht : P.underlying t' = some (.int k')) (hx : evE e x = .int k p := by simp (decide := true) only [evE, upd, cv, args0, argsFrom, List.length_map, ↓reduceIte, hE] <;> rfl) (h : Wk (m.log ⟨some (d, .int k' (k'.wrap p)), [], []⟩) ⟨P, w0, S0, nt, frs⟩ ops Q ⟨upd e d (.int k' (k'.wrap p)), ob, g⟩ rest) : Wk m ⟨P, w0, S0, nt, frs⟩ ops Q ⟨e, ob, g⟩ (⟨some d, .convert t t' x, ty, pos, aft, none⟩ :: rest) :=
  Wk.op (Loc.plain rfl rfl fun st' hv' _ _ => Stp.convInt (st := st') rfl hn rfl hs ht ((hv' x (by simp [Op.operands])).trans ((evE_eq e ob g x).trans hx))) h
theorem p_shr {t t' : TypeId} {x y : Operand} {k k' : IntKind} {p q : Int} {v : V} (hn : d < nt := by decide) (hx : evE e x = .int k p := by simp (decide := true) only [evE, upd, cv, args0, argsFrom, List.length_map, ↓reduceIte, hE] <;> rfl) (hy : evE e y = .int k' q := by simp (decide := true) only [evE, upd, cv, args0, argsFrom, List.length_map, ↓reduceIte, hE] <;> rfl) (h0 : 0 ≤ q) (hv : V.int k (p.fdiv (2 ^ min q.toNat k.bits)) = v) (h : Wk (m.log ⟨some (d, v), [], []⟩) ⟨P, w0, S0, nt, frs⟩ ops Q ⟨upd e d v, ob, g⟩ rest) : Wk m ⟨P, w0, S0, nt, frs⟩ ops Q ⟨e, ob, g⟩ (⟨some d, .binOp .shr t x y t', ty, pos, aft, none⟩ :: rest) :=
  Wk.op (Loc.plain rfl rfl fun st' hv' _ _ => Stp.shift (st := st') rfl hn rfl ((hv' x (by simp [Op.operands])).trans ((evE_eq e ob g x).trans hx)) ((hv' y (by simp [Op.operands])).trans ((evE_eq e ob g y).trans hy)) h0 (.inr ⟨rfl, hv.symm⟩)) h
theorem p_shl {t t' : TypeId} {x y : Operand} {k k' : IntKind} {p q : Int} {v : V} (hn : d < nt := by decide) (hx : evE e x = .int k p := by simp (decide := true) only [evE, upd, cv, args0, argsFrom, List.length_map, ↓reduceIte, hE] <;> rfl) (hy : evE e y = .int k' q := by simp (decide := true) only [evE, upd, cv, args0, argsFrom, List.length_map, ↓reduceIte, hE] <;> rfl) (h0 : 0 ≤ q) (hv : V.int k (k.wrap (p * 2 ^ min q.toNat k.bits)) = v) (h : Wk (m.log ⟨some (d, v), [], []⟩) ⟨P, w0, S0, nt, frs⟩ ops Q ⟨upd e d v, ob, g⟩ rest) : Wk m ⟨P, w0, S0, nt, frs⟩ ops Q ⟨e, ob, g⟩ (⟨some d, .binOp .shl t x y t', ty, pos, aft, none⟩ :: rest) :=
  Wk.op (Loc.plain rfl rfl fun st' hv' _ _ => Stp.shift (st := st') rfl hn rfl ((hv' x (by simp [Op.operands])).trans ((evE_eq e ob g x).trans hx)) ((hv' y (by simp [Op.operands])).trans ((evE_eq e ob g y).trans hy)) h0 (.inl ⟨rfl, hv.symm⟩)) h
theorem p_eqB {t t' : TypeId} {x y : Operand} {p q : Bool} (hn : d < nt := by decide) (ht : P.underlying t = some .bool) (hx : evE e x = .bool p := by simp (decide := true) only [evE, upd, cv, args0, argsFrom, List.length_map, ↓reduceIte, hE] <;> rfl) (hy : evE e y = .bool q := by simp (decide := true) only [evE, upd, cv, args0, argsFrom, List.length_map, ↓reduceIte, hE] <;> rfl) (h : Wk (m.log ⟨some (d, .bool (p == q)), [], []⟩) ⟨P, w0, S0, nt, frs⟩ ops Q ⟨upd e d (.bool (p == q)), ob, g⟩ rest) : Wk m ⟨P, w0, S0, nt, frs⟩ ops Q ⟨e, ob, g⟩ (⟨some d, .binOp .eql t x y t', ty, pos, aft, none⟩ :: rest) :=
  Wk.op (Loc.plain rfl rfl fun st' hv' _ _ => Stp.eqB (st := st') rfl hn rfl ht ((hv' x (by simp [Op.operands])).trans ((evE_eq e ob g x).trans hx)) ((hv' y (by simp [Op.operands])).trans ((evE_eq e ob g y).trans hy))) h
theorem p_neB {t t' : TypeId} {x y : Operand} {p q : Bool} (hn : d < nt := by decide) (ht : P.underlying t = some .bool) (hx : evE e x = .bool p := by simp (decide := true) only [evE, upd, cv, args0, argsFrom, List.length_map, ↓reduceIte, hE] <;> rfl) (hy : evE e y = .bool q := by simp (decide := true) only [evE, upd, cv, args0, argsFrom, List.length_map, ↓reduceIte, hE] <;> rfl) (h : Wk (m.log ⟨some (d, .bool (!(p == q))), [], []⟩) ⟨P, w0, S0, nt, frs⟩ ops Q ⟨upd e d (.bool (!(p == q))), ob, g⟩ rest) : Wk m ⟨P, w0, S0, nt, frs⟩ ops Q ⟨e, ob, g⟩ (⟨some d, .binOp .neq t x y t', ty, pos, aft, none⟩ :: rest) :=
  Wk.op (Loc.plain rfl rfl fun st' hv' _ _ => Stp.neB (st := st') rfl hn rfl ht ((hv' x (by simp [Op.operands])).trans ((evE_eq e ob g x).trans hx)) ((hv' y (by simp [Op.operands])).trans ((evE_eq e ob g y).trans hy))) h
theorem p_lookOwnW {t kt el : TypeId} {x y : Operand} {ok : Bool} {g1 d1 : Nat} {mp : MP} {k : MK} {u v : V} {z : Value} {size bytes : Nat} (hn : d < nt := by decide) (ht : P.underlying t = some (.map kt el)) (hi : TI P el z size bytes) (hx : evE e x = .map g1 d1 := by simp (decide := true) only [evE, upd, cv, args0, argsFrom, List.length_map, ↓reduceIte, hE] <;> rfl) (ho : ob g1 d1 = .map mp := by simp (decide := true) only [updO, upd, true_and, and_true, false_and, and_false, ↓reduceIte, hE] <;> first | rfl | assumption) (hy : evE e y = u := by simp (decide := true) only [evE, upd, cv, args0, argsFrom, List.length_map, ↓reduceIte, hE] <;> rfl) (hk : u.key = some k) (hf : k.fits P kt mp)
    (hv : (if ok then .tup [cw ((mp.get k).getD z), .bool (mp.get k).isSome] else cw ((mp.get k).getD z)) = v) (h : Wk (m.log ⟨some (d, v), [], [(g1, d1)]⟩) ⟨P, w0, S0, nt, frs⟩ ops Q ⟨upd e d v, ob, g⟩ rest) : Wk m ⟨P, w0, S0, nt, frs⟩ ops Q ⟨e, ob, g⟩ (⟨some d, .lookup t x y ok, ty, pos, aft, none⟩ :: rest) :=
  Wk.op (Loc.plain rfl rfl fun st' hv' ho' _ => Stp.lookOwnW (st := st') rfl hn rfl ht hi ((hv' x (by simp [Op.operands])).trans ((evE_eq e ob g x).trans hx)) ((ho' (g1, d1) (by simp)).trans ho) ((hv' y (by simp [Op.operands])).trans ((evE_eq e ob g y).trans hy)) hk hf hv) h
theorem p_mapPutW {t kt el : TypeId} {x y z : Operand} {g1 d1 : Nat} {mp : MP} {k : MK} {u : V} {v : Value} (ht : P.underlying t = some (.map kt el)) (hx : evE e x = .map g1 d1 := by simp (decide := true) only [evE, upd, cv, args0, argsFrom, List.length_map, ↓reduceIte, hE] <;> rfl) (ho : ob g1 d1 = .map mp := by simp (decide := true) only [updO, upd, true_and, and_true, false_and, and_false, ↓reduceIte, hE] <;> first | rfl | assumption) (hy : evE e y = u := by simp (decide := true) only [evE, upd, cv, args0, argsFrom, List.length_map, ↓reduceIte, hE] <;> rfl) (hk : u.key = some k) (hf : k.fits P kt mp) (hz : evE e z = cw v := by simp (decide := true) only [evE, upd, cv, args0, argsFrom, List.length_map, ↓reduceIte, hE] <;> rfl) (hvf : (cw v).flat = true)
    (h : Wk (m.log ⟨none, [(g1, d1, .map (mp.put k v))], [(g1, d1)]⟩) ⟨P, w0, S0, nt, frs⟩ ops Q ⟨e, updO ob g1 d1 (.map (mp.put k v)), g⟩ rest) : Wk m ⟨P, w0, S0, nt, frs⟩ ops Q ⟨e, ob, g⟩ (⟨none, .mapUpdate t x y z, ty, pos, aft, none⟩ :: rest) :=
  Wk.op (Loc.plain rfl rfl fun st' hv' ho' _ => Stp.mapPutW (st := st') rfl (.inl rfl) ht ((hv' x (by simp [Op.operands])).trans ((evE_eq e ob g x).trans hx)) ((ho' (g1, d1) (by simp)).trans ho) ((hv' y (by simp [Op.operands])).trans ((evE_eq e ob g y).trans hy)) hk hf ((hv' z (by simp [Op.operands])).trans ((evE_eq e ob g z).trans hz)) hvf) h
theorem p_mapInsW {t kt el : TypeId} {x y z : Operand} {g1 d1 : Nat} {mp : MP} {k : MK} {u : V} {v : Value} (ht : P.underlying t = some (.map kt el)) (hx : evE e x = .map g1 d1 := by simp (decide := true) only [evE, upd, cv, args0, argsFrom, List.length_map, ↓reduceIte, hE] <;> rfl) (ho : ob g1 d1 = .map mp := by simp (decide := true) only [updO, upd, true_and, and_true, false_and, and_false, ↓reduceIte, hE] <;> first | rfl | assumption) (hy : evE e y = u := by simp (decide := true) only [evE, upd, cv, args0, argsFrom, List.length_map, ↓reduceIte, hE] <;> rfl) (hk : u.key = some k) (hf : k.fits P kt mp) (hz : evE e z = cw v := by simp (decide := true) only [evE, upd, cv, args0, argsFrom, List.length_map, ↓reduceIte, hE] <;> rfl) (hvf : (cw v).flat = true)
    (h : Wk (m.log ⟨none, [(g1, d1, .map (mp.put k v))], [(g1, d1)]⟩) ⟨P, w0, S0, nt, frs⟩ ops Q ⟨e, updO ob g1 d1 (.map (mp.put k v)), g⟩ rest) : Wk m ⟨P, w0, S0, nt, frs⟩ ops Q ⟨e, ob, g⟩ (⟨none, .insert t x y z, ty, pos, aft, none⟩ :: rest) :=
  Wk.op (Loc.plain rfl rfl fun st' hv' ho' _ => Stp.mapPutW (st := st') rfl (.inr rfl) ht ((hv' x (by simp [Op.operands])).trans ((evE_eq e ob g x).trans hx)) ((ho' (g1, d1) (by simp)).trans ho) ((hv' y (by simp [Op.operands])).trans ((evE_eq e ob g y).trans hy)) hk hf ((hv' z (by simp [Op.operands])).trans ((evE_eq e ob g z).trans hz)) hvf) h
theorem p_min {t u : TypeId} {x y : Operand} {k : IntKind} {p q : Int} (hn : d < nt := by decide) (hx : evE e x = .int k p := by simp (decide := true) only [evE, upd, cv, args0, argsFrom, List.length_map, ↓reduceIte, hE] <;> rfl) (hy : evE e y = .int k q := by simp (decide := true) only [evE, upd, cv, args0, argsFrom, List.length_map, ↓reduceIte, hE] <;> rfl) (h : Wk (m.log ⟨some (d, .int k (if q < p then q else p)), [], []⟩) ⟨P, w0, S0, nt, frs⟩ ops Q ⟨upd e d (.int k (if q < p then q else p)), ob, g⟩ rest) : Wk m ⟨P, w0, S0, nt, frs⟩ ops Q ⟨e, ob, g⟩ (⟨some d, .call { callee := .builtin .min, args := #[x, y], argTypes := #[t, u] }, ty, pos, aft, none⟩ :: rest) :=
  Wk.op (Loc.plain rfl rfl fun st' hv' _ _ => Stp.minI (st := st') rfl hn rfl ((hv' x (by simp [Op.operands, Call.operands])).trans ((evE_eq e ob g x).trans hx)) ((hv' y (by simp [Op.operands, Call.operands])).trans ((evE_eq e ob g y).trans hy))) h
theorem p_ret0 {dfs : List Dfr} {rd : Option Nat} {fn : Func} {Post : V → Prop} {st : St} (hres : fn.results = #[]) (hp : Post (.tup [])) (hmk : dfs.all Dfr.isMark = true := by exact rfl) : Tr ⟨P, w0, S0, nt, ⟨[], dfs, rd⟩⟩ st (Ret P fn S0 w0 Post .normal) :=
  Tr.rets (xs := []) (vs := []) (st := st) (fn := fn) (Post := Post) (by rw [hres]) rfl (by simp) (fun j x v h _ => by simp at h) hp hmk
theorem p_mul {t t' : TypeId} {x y : Operand} {p q r : Int} (hn : d < nt := by decide) (hx : evE e x = .int .i64 p := by simp (decide := true) only [evE, upd, cv, args0, argsFrom, List.length_map, ↓reduceIte, hE] <;> rfl) (hy : evE e y = .int .i64 q := by simp (decide := true) only [evE, upd, cv, args0, argsFrom, List.length_map, ↓reduceIte, hE] <;> rfl) (hr : p * q = r) (hb : -9223372036854775808 ≤ r ∧ r ≤ 9223372036854775807) (h : Wk (m.log ⟨some (d, .int .i64 r), [], []⟩) ⟨P, w0, S0, nt, frs⟩ ops Q ⟨upd e d (.int .i64 r), ob, g⟩ rest) :
    Wk m ⟨P, w0, S0, nt, frs⟩ ops Q ⟨e, ob, g⟩ (⟨some d, .binOp .mul t x y t', ty, pos, aft, none⟩ :: rest) :=
  p_num hn hx hy (by simp only [numOp, hr, IntWalk.i64_in r hb]) h
theorem p_sub {t t' : TypeId} {x y : Operand} {p q r : Int} (hn : d < nt := by decide) (hx : evE e x = .int .i64 p := by simp (decide := true) only [evE, upd, cv, args0, argsFrom, List.length_map, ↓reduceIte, hE] <;> rfl) (hy : evE e y = .int .i64 q := by simp (decide := true) only [evE, upd, cv, args0, argsFrom, List.length_map, ↓reduceIte, hE] <;> rfl) (hr : p - q = r) (hb : -9223372036854775808 ≤ r ∧ r ≤ 9223372036854775807) (h : Wk (m.log ⟨some (d, .int .i64 r), [], []⟩) ⟨P, w0, S0, nt, frs⟩ ops Q ⟨upd e d (.int .i64 r), ob, g⟩ rest) :
    Wk m ⟨P, w0, S0, nt, frs⟩ ops Q ⟨e, ob, g⟩ (⟨some d, .binOp .sub t x y t', ty, pos, aft, none⟩ :: rest) :=
  p_num hn hx hy (by simp only [numOp, hr, IntWalk.i64_in r hb]) h
theorem mul_small {a b : Int} (h1 : 0 ≤ a) (h2 : a ≤ 1000000000) (h3 : 0 ≤ b) (h4 : b ≤ 1000000000) : -9223372036854775808 ≤ a * b ∧ a * b ≤ 9223372036854775807 := by
  have h5 : 0 ≤ a * b := Int.mul_nonneg h1 h3
  have h6 : a * b ≤ 1000000000 * 1000000000 := Int.mul_le_mul h2 h4 h3 (by omega)
  omega
/-- Bytes of a row of the call's own as a string. -/
theorem p_bytesStr {t t' el g1 d1 n : Nat} {x : Operand} {xs : List V} {l : List Int} (hn : d < nt := by decide) (ht : P.underlying t = some (.slice el)) (he : P.underlying el = some (.int .u8)) (ht' : P.underlying t' = some .string) (hx : evE e x = .row g1 d1 n := by simp (decide := true) only [evE, upd, cv, args0, argsFrom, List.length_map, ↓reduceIte, hE] <;> rfl) (ho : ob g1 d1 = .row el xs := by simp (decide := true) only [updO, upd, true_and, and_true, false_and, and_false, ↓reduceIte, hE] <;> first | rfl | assumption) (hl : xs = l.map (V.int .u8) := by exact rfl) (hnl : n = l.length) (h : Wk (m.log ⟨some (d, .str (bstr l)), [], [(g1, d1)]⟩) ⟨P, w0, S0, nt, frs⟩ ops Q ⟨upd e d (.str (bstr l)), ob, g⟩ rest) : Wk m ⟨P, w0, S0, nt, frs⟩ ops Q ⟨e, ob, g⟩ (⟨some d, .convert t t' x, ty, pos, aft, none⟩ :: rest) :=
  Wk.op (Loc.plain rfl rfl fun st' hv' ho' _ => Stp.bytesStr (st := st') rfl hn rfl ht he ht' ((hv' x (by simp [Op.operands])).trans ((evE_eq e ob g x).trans hx)) ⟨.inl ((ho' (g1, d1) (by simp)).trans (by rw [← hl]; exact ho)), by rw [List.length_map]; exact hnl⟩) h
/-- A row that is told by f: a load, and a store. -/
theorem p_loadRowF {t t' i g1 d1 n : Nat} {x : Operand} {f : Nat → V} {v : V} (hn : d < nt := by decide) (ht : IsLeaf P t) (hx : evE e x = .rptr t' g1 d1 i 0 := by simp (decide := true) only [evE, upd, cv, args0, argsFrom, List.length_map, ↓reduceIte, hE] <;> rfl) (ho : ob g1 d1 = .row t' ((List.range n).map f) := by simp (decide := true) only [updO, upd, true_and, and_true, false_and, and_false, ↓reduceIte, hE] <;> first | rfl | assumption) (hi : i < n) (hf : (f i).cells = [v] := by exact rfl) (h : Wk (m.log ⟨some (d, v), [], [(g1, d1)]⟩) ⟨P, w0, S0, nt, frs⟩ ops Q ⟨upd e d v, ob, g⟩ rest) :
    Wk m ⟨P, w0, S0, nt, frs⟩ ops Q ⟨e, ob, g⟩ (⟨some d, .load t x, ty, pos, aft, none⟩ :: rest) :=
  p_loadRow hn ht hx ho (y := f i) (by simp [hi]) (by rw [hf]; rfl) h
theorem p_idxRowN {t t' g1 d1 n : Nat} {x y : Operand} {xs : List V} {k : IntKind} {i : Int} {z : Value} {size bytes : Nat} (j : Nat) (hn : d < nt := by decide) (ht : P.underlying t = some (.slice t')) (hi : TI P t' z size bytes) (hx : evE e x = .row g1 d1 n := by simp (decide := true) only [evE, upd, cv, args0, argsFrom, List.length_map, ↓reduceIte, hE] <;> rfl) (ho : ob g1 d1 = .row t' xs := by simp (decide := true) only [updO, upd, true_and, and_true, false_and, and_false, ↓reduceIte, hE] <;> first | rfl | assumption) (hy : evE e y = .int k i := by simp (decide := true) only [evE, upd, cv, args0, argsFrom, List.length_map, ↓reduceIte, hE] <;> rfl) (hij : i = (j : Int)) (hlt : j < n)
    (h : Wk (m.log ⟨some (d, (.rptr t' g1 d1 j 0)), [], [(g1, d1)]⟩) ⟨P, w0, S0, nt, frs⟩ ops Q ⟨upd e d (.rptr t' g1 d1 j 0), ob, g⟩ rest) : Wk m ⟨P, w0, S0, nt, frs⟩ ops Q ⟨e, ob, g⟩ (⟨some d, .indexAddr t x y, ty, pos, aft, none⟩ :: rest) := by
  have hj : i.toNat = j := by omega
  refine p_idxRow hn ht hi hx ho hy (by omega) (by omega) ?_
  rw [hj]; exact h
theorem p_loadRowAM {α : Type} {t t' i g1 d1 : Nat} {x : Operand} {l : List α} {f : α → V} {l' : List V} {z : Value} {size bytes : Nat} (hn : d < nt := by decide) (ht : IsAgg P t) (hi : TI P t z size bytes) (hx : evE e x = .rptr t' g1 d1 i 0 := by simp (decide := true) only [evE, upd, cv, args0, argsFrom, List.length_map, ↓reduceIte, hE] <;> rfl) (ho : ob g1 d1 = .row t' (l.map f) := by simp (decide := true) only [updO, upd, true_and, and_true, false_and, and_false, ↓reduceIte, hE] <;> first | rfl | assumption) (hj : i < l.length) (hl : (f l[i]).cells = l' := by exact rfl) (hlen : l'.length = size := by exact rfl)
    (h : Wk (m.log ⟨some (d, (.agg l')), [], [(g1, d1)]⟩) ⟨P, w0, S0, nt, frs⟩ ops Q ⟨upd e d (.agg l'), ob, g⟩ rest) : Wk m ⟨P, w0, S0, nt, frs⟩ ops Q ⟨e, ob, g⟩ (⟨some d, .load t x, ty, pos, aft, none⟩ :: rest) :=
  p_loadRowA hn ht hi hx ho (y := f l[i]) (by simp [hj]) (by rw [List.drop_zero, hl]; exact List.take_of_length_le (by omega)) hlen h
theorem p_loadRowM {α : Type} {t t' i g1 d1 : Nat} {x : Operand} {l : List α} {f : α → V} {v : V} (hn : d < nt := by decide) (ht : IsLeaf P t) (hx : evE e x = .rptr t' g1 d1 i 0 := by simp (decide := true) only [evE, upd, cv, args0, argsFrom, List.length_map, ↓reduceIte, hE] <;> rfl) (ho : ob g1 d1 = .row t' (l.map f) := by simp (decide := true) only [updO, upd, true_and, and_true, false_and, and_false, ↓reduceIte, hE] <;> first | rfl | assumption) (hj : i < l.length) (hv : (f l[i]).cells = [v] := by exact rfl) (h : Wk (m.log ⟨some (d, v), [], [(g1, d1)]⟩) ⟨P, w0, S0, nt, frs⟩ ops Q ⟨upd e d v, ob, g⟩ rest) :
    Wk m ⟨P, w0, S0, nt, frs⟩ ops Q ⟨e, ob, g⟩ (⟨some d, .load t x, ty, pos, aft, none⟩ :: rest) :=
  p_loadRow hn ht hx ho (y := f l[i]) (by simp [hj]) (by rw [hv]; rfl) h
theorem set_map_range {α : Type} {n i : Nat} {f h : Nat → α} {v : α} (hh : ∀ j, j < n → h j = if j = i then v else f j) : ((List.range n).map f).set i v = (List.range n).map h := by
  refine List.ext_getElem (by simp) fun j h1 h2 => ?_
  simp only [List.length_set, List.length_map, List.length_range] at h1
  rw [List.getElem_set]
  simp only [List.getElem_map, List.getElem_range, hh j h1]
  split
  · rename_i he; rw [if_pos he.symm]
  · rename_i he; rw [if_neg fun e => he e.symm]
theorem p_storeRowF {t t' i g1 d1 n : Nat} {x y : Operand} {f f' : Nat → V} {v : V} {z : Value} {bytes : Nat} (hi : TI P t z 1 bytes) (hc : P.cellsOf t' = 1) (hx : evE e x = .rptr t' g1 d1 i 0 := by simp (decide := true) only [evE, upd, cv, args0, argsFrom, List.length_map, ↓reduceIte, hE] <;> rfl) (ho : ob g1 d1 = .row t' ((List.range n).map f) := by simp (decide := true) only [updO, upd, true_and, and_true, false_and, and_false, ↓reduceIte, hE] <;> first | rfl | assumption) (hlt : i < n) (hy : evE e y = v := by simp (decide := true) only [evE, upd, cv, args0, argsFrom, List.length_map, ↓reduceIte, hE] <;> rfl) (hl : v.isRL = true := by exact rfl) (hf : ∀ j, j < n → f' j = if j = i then v else f j)
    (h : Wk (m.log ⟨none, [(g1, d1, (.row t' ((List.range n).map f')))], [(g1, d1)]⟩) ⟨P, w0, S0, nt, frs⟩ ops Q ⟨e, updO ob g1 d1 (.row t' ((List.range n).map f')), g⟩ rest) : Wk m ⟨P, w0, S0, nt, frs⟩ ops Q ⟨e, ob, g⟩ (⟨none, .store t x y, ty, pos, aft, none⟩ :: rest) := by
  have hc1 : v.cells = [v] := by cases v <;> simp_all [V.isRL, V.cells]
  have hlf : v.leaf = true := by cases v <;> simp_all [V.isRL, V.leaf]
  have hro : v.ro = true := by cases v <;> simp_all [V.isRL, V.ro]
  refine p_storeRow hi hc hx ho (by simpa using hlt) hy (.inl hlf) hro (by rw [hc1]; rfl) ?_
  rw [set_map_range hf]; exact h
end
end Go.Proofs.YtjjpmbaddpiamaaDoor
