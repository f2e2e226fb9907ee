import Derived.Below
import Derived.Test.YtjjpmbaddpiamaaDoorProg
import Derived.Lib.LaidTab
import Derived.Lib.AppendIntMem
import Derived.Maps.OwnOps
import Derived.Maps.OwnSet
import Derived.OwnWalk
import Derived.WalkKit
import Derived.Deep.Draws
/-
  What lies in the package-level variables that the rows list.
-/
namespace Go.Proofs.YtjjpmbaddpiamaaDoor
open Go.RowKit
/-- Cells and what they hold. -/
def globTab : List (Addr × Value) := []
/-- What else is asked of the world. -/
def globMore (w : World) : Prop := Lib.TabIs Tryd.prog w "internal/strconv.uint64pow10" .u64 Lib.pow10Tab ∧ (∃ tp p, w.cell? ⟨2, 0, none⟩ = some (.iface tp p)) ∧ (∃ tp p, w.cell? ⟨1, 0, none⟩ = some (.iface tp p))
theorem cell_below {w w' : World} (hb : Below w.heap.size w w') {a : Addr} {v : Value} (h1 : w.cell? a = some v) : w'.cell? a = some v := by
  have hlt : a.block < w.heap.size := by
    refine Nat.lt_of_not_le fun hle => ?_
    have : w.heap[a.block]? = none := Array.getElem?_eq_none hle
    simp [World.cell?, this] at h1
  rw [← h1]
  exact World.cell?_of_block (hb.block _ hlt)
theorem globMore_below {w w' : World} (hb : Below w.heap.size w w') : globMore w → globMore w'
  | ⟨ht, ⟨t0, p0, h0⟩, ⟨t1, p1, h1⟩⟩ => ⟨Lib.tabBelow_of_tabIs ht w' hb, ⟨t0, p0, cell_below hb h0⟩, ⟨t1, p1, cell_below hb h1⟩⟩
end Go.Proofs.YtjjpmbaddpiamaaDoor
/-
  Maps that a call makes and writes: what a block of the heap holds, as a list of keys and values in the order in which they came.
-/
set_option linter.unusedSimpArgs false
set_option linter.unusedVariables false
namespace Go.Proofs.YtjjpmbaddpiamaaDoor
open Go.RowKit Go.ChangeMaps Go.MapKept

section lists
variable {κ β : Type} [DecidableEq κ]
def mget (k : κ) : List (κ × β) → Option β
  | [] => none
  | (k', v) :: l => if k = k' then some v else mget k l
def mput (k : κ) (v : β) : List (κ × β) → List (κ × β)
  | [] => [(k, v)]
  | (k', v') :: l => if k = k' then (k, v) :: l else (k', v') :: mput k v l
theorem mget_mput (k k' : κ) (v : β) (l : List (κ × β)) : mget k (mput k' v l) = if k = k' then some v else mget k l := by
  induction l with
  | nil => simp [mput, mget]
  | cons p l ih =>
    obtain ⟨q, u⟩ := p
    by_cases h : k' = q
    · subst h
      by_cases hk : k = k' <;> simp [mput, mget, hk]
    · by_cases hk : k = q
      · subst hk
        have h' : ¬ k = k' := fun e => h e.symm
        simp [mput, mget, h, h']
      · simp [mput, mget, h, hk, ih]
theorem mput_new (k : κ) (v : β) (l : List (κ × β)) (h : mget k l = none) : mput k v l = l ++ [(k, v)] := by
  induction l with
  | nil => rfl
  | cons p l ih =>
    obtain ⟨q, u⟩ := p
    simp only [mget] at h
    split at h
    · cases h
    · rename_i hne
      simp [mput, hne, ih h]
theorem length_mput (k : κ) (v : β) (l : List (κ × β)) : (mput k v l).length = if (mget k l).isSome then l.length else l.length + 1 := by
  induction l with
  | nil => rfl
  | cons p l ih =>
    obtain ⟨q, u⟩ := p
    by_cases h : k = q
    · simp [mput, mget, h]
    · simp only [mput, mget, if_neg h, List.length_cons, ih]
      split <;> rfl
theorem length_mput_le (k : κ) (v : β) (l : List (κ × β)) : (mput k v l).length ≤ l.length + 1 := by
  rw [length_mput]; split <;> omega
end lists

/-- Keys of one type: how they are spelt, and that the model's search tells them apart. -/
structure KeyT (P : Program) (kt : TypeId) (κ : Type) [DecidableEq κ] where
  enc : κ → Value
  ok : κ → Prop
  check : ∀ (e : Bool) (k : κ) (w : World), ok k → (Instr.checkKey e 10000 kt (enc k)).run P w = .ok () w
  find : ∀ {β : Type} (ev : β → Value) (k : κ) (es : List MapEntry) (l : List (κ × β)) (w : World), ok k → (∀ p ∈ l, ok p.1) → es.map (fun e => (e.key, e.val)) = l.map (fun p => (enc p.1, ev p.2)) →
    ((Instr.findKey kt (enc k) es).run P w = .ok none w ∧ mget k l = none) ∨ ∃ i v, (Instr.findKey kt (enc k) es).run P w = .ok (some (i, ev v)) w ∧ l[i]? = some (k, v) ∧ mget k l = some v ∧ ∀ u, mput k u l = l.set i (k, u)
  same : ∀ k, Instr.sameBits 10000 (enc k) (enc k) = true

section findNow
variable {κ β : Type} [DecidableEq κ]
theorem findNow_gen {kind : TypeDesc} (enc : κ → Value) (hs : ∀ a b, Instr.sameNow kind (enc a) (enc b) = some (decide (a = b))) (ev : β → Value) (k : κ) :
    ∀ (es : List MapEntry) (l : List (κ × β)) (n : Nat), es.map (fun e => (e.key, e.val)) = l.map (fun p => (enc p.1, ev p.2)) →
    (Instr.findNow kind (enc k) es n = some none ∧ mget k l = none) ∨ ∃ i v, Instr.findNow kind (enc k) es n = some (some (n + i, ev v)) ∧ l[i]? = some (k, v) ∧ mget k l = some v ∧ ∀ u, mput k u l = l.set i (k, u)
  | [], [], n, _ => .inl ⟨rfl, rfl⟩
  | [], _ :: _, _, h => by simp at h
  | _ :: _, [], _, h => by simp at h
  | e :: es, (q, u) :: l, n, h => by
    simp only [List.map_cons, List.cons.injEq, Prod.mk.injEq] at h
    obtain ⟨⟨hk, hv⟩, ht⟩ := h
    have hd := hs k q
    by_cases e1 : k = q
    · right
      refine ⟨0, u, ?_, ?_, ?_, ?_⟩
      · rw [e1] at hd
        simp only [decide_true] at hd
        simp only [Instr.findNow, hk, e1, hd, hv, Nat.add_zero]
      · simp [e1]
      · simp [mget, e1]
      · intro v; simp [mput, e1]
    · have hf : Instr.findNow kind (enc k) (e :: es) n = Instr.findNow kind (enc k) es (n + 1) := by
        simp only [Instr.findNow, hk, hd, e1, decide_false]
      rcases findNow_gen enc hs ev k es l (n + 1) ht with ⟨h1, h2⟩ | ⟨i, v, h1, h2, h3, h4⟩
      · left
        exact ⟨by rw [hf]; exact h1, by simp [mget, e1, h2]⟩
      · right
        refine ⟨i + 1, v, by rw [hf, h1]; simp [Nat.add_assoc, Nat.add_comm 1 i], by simpa using h2, by simp [mget, e1, h3], fun v => by simp [mput, e1, h4 v]⟩
end findNow

/-- Keys of an integer kind. -/
def intKey {P : Program} {kt : TypeId} {q : IntKind} (h : P.underlying kt = some (.int q)) : KeyT P kt Int where
  enc := .int q
  ok := fun _ => True
  check := fun e k w _ => MapKept.run_checkKey (k := .int q k) h (by simp [MapKept.IsKey]) e 9999
  find := by
    intro β ev k es l w _ _ hl
    rcases findNow_gen (kind := .int q) (Value.int q) (fun a b => by simp [Instr.sameNow]; rfl) ev k es l 0 hl with ⟨h1, h2⟩ | ⟨i, v, h1, h2, h3, h4⟩
    · exact .inl ⟨MapKept.run_findKey h h1, h2⟩
    · exact .inr ⟨i, v, by rw [Nat.zero_add] at h1; exact MapKept.run_findKey h h1, h2, h3, h4⟩
  same := fun k => by simp [Instr.sameBits]

/-- Keys that are strings. -/
def strKey {P : Program} {kt : TypeId} (h : P.underlying kt = some .string) : KeyT P kt ByteArray where
  enc := .string
  ok := fun _ => True
  check := fun e k w _ => MapKept.run_checkKey (k := .string k) h (by simp [MapKept.IsKey]) e 9999
  find := by
    intro β ev k es l w _ _ hl
    rcases findNow_gen (kind := .string) Value.string (fun a b => by simp only [Instr.sameNow]; congr 1; rw [Bool.eq_iff_iff, MapKept.bytes_beq]; simp) ev k es l 0 hl with ⟨h1, h2⟩ | ⟨i, v, h1, h2, h3, h4⟩
    · exact .inl ⟨MapKept.run_findKey h h1, h2⟩
    · exact .inr ⟨i, v, by rw [Nat.zero_add] at h1; exact MapKept.run_findKey h h1, h2, h3, h4⟩
  same := fun k => by simp only [Instr.sameBits]; exact (MapKept.bytes_beq k k).2 rfl

section maps
variable {P : Program} {kt : TypeId} {κ β : Type} [DecidableEq κ]
/-- Block b of w is a map that holds just l. -/
def MapOf (K : KeyT P kt κ) (ev : β → Value) (w : World) (b : Nat) (l : List (κ × β)) : Prop :=
  ∃ arr clock, w.heap[b]? = some (.map arr clock) ∧ arr.toList.map (fun e => (e.key, e.val)) = l.map (fun p => (K.enc p.1, ev p.2)) ∧ ∀ p ∈ l, K.ok p.1
variable {K : KeyT P kt κ} {ev : β → Value} {w w' : World} {b : Nat} {l : List (κ × β)}
theorem MapOf.lt (h : MapOf K ev w b l) : b < w.heap.size := by
  obtain ⟨_, _, hb, _⟩ := h
  exact (Array.getElem?_eq_some_iff.1 hb).1
theorem MapOf.made (K : KeyT P kt κ) (ev : β → Value) (w : World) : MapOf K ev (w.alloc (.map #[] 0)) w.heap.size [] :=
  ⟨#[], 0, (MapKept.heap_alloc w _).1, rfl, by simp⟩
theorem MapOf.move (h : MapOf K ev w b l) (hm : w'.heap[b]? = w.heap[b]?) : MapOf K ev w' b l := by
  obtain ⟨arr, c, hb, hl, ho⟩ := h
  exact ⟨arr, c, hm.trans hb, hl, ho⟩
theorem MapOf.kept {row : Option Nat} (h : MapOf K ev w b l) (hg : w.grownBy w' row) (hne : some b ≠ row) : MapOf K ev w' b l := h.move (hg.block b h.lt hne)
theorem MapOf.alloc (h : MapOf K ev w b l) (o : Obj) : MapOf K ev (w.alloc o) b l := h.kept (World.grownBy_alloc w o none) (by simp)
theorem MapOf.drew (h : MapOf K ev w b l) : MapOf K ev w.drew b l := h
theorem MapOf.drewN (h : MapOf K ev w b l) (n : Nat) : MapOf K ev (w.drewN n) b l := h.move (by rfl)
theorem MapOf.below (h : MapOf K ev w b l) (hb : Below w.heap.size w w') : MapOf K ev w' b l := h.move (hb.block b h.lt)
theorem MapOf.setCell (h : MapOf K ev w b l) (p : Addr) (v : Value) (hne : p.block ≠ b) : MapOf K ev (w.setCell p v) b l := h.move (Below.heap_setCell w p v b (fun e => hne e.symm))

theorem MapOf.look (h : MapOf K ev w b l) {t e : TypeId} (ht : P.underlying t = some (.map kt e)) {z : Value} (hz : (zeroValue e).run P w = .ok z w) (k : κ) (hk : K.ok k) (c : Bool) :
    (Instr.lookup t (.map (some b)) (K.enc k) c).run P w = .ok (if c then .tuple #[((mget k l).map ev).getD z, .bool (mget k l).isSome] else ((mget k l).map ev).getD z) w := by
  obtain ⟨arr, clock, hb, hl, ho⟩ := h
  rcases K.find ev k arr.toList l w hk ho hl with ⟨h1, h2⟩ | ⟨i, v, h1, h2, h3, _⟩
  · simp only [Instr.lookup, run_underlying ht, MapKept.run_getObj_map hb, K.check _ _ _ hk, h1, hz, Result.andThen, Sem.run_bind, Sem.run_pure, h2, Option.map_none, Option.getD_none, Option.isSome_none]
  · simp only [Instr.lookup, run_underlying ht, MapKept.run_getObj_map hb, K.check _ _ _ hk, h1, Result.andThen, Sem.run_bind, Sem.run_pure, h3, Option.map_some, Option.getD_some, Option.isSome_some]
theorem MapOf.len (h : MapOf K ev w b l) {t e : TypeId} (ht : P.underlying t = some (.map kt e)) (ty : TypeId) : (Builtin.len_ #[t] ty #[.map (some b)]).run P w = .ok (.int .i64 l.length) w := by
  obtain ⟨arr, clock, hb, hl, _⟩ := h
  have e1 : arr.size = l.length := by simpa using congrArg List.length hl
  simp [Builtin.len_, run_underlying ht, MapKept.run_getObj_map hb, goInt, Result.andThen, e1]
theorem MapOf.update (h : MapOf K ev w b l) {t e : TypeId} (ht : P.underlying t = some (.map kt e)) (k : κ) (hk : K.ok k) (v : β) :
    ∃ w', (Instr.mapUpdate t (.map (some b)) (K.enc k) (ev v)).run P w = .ok () w' ∧ MapOf K ev w' b (mput k v l) ∧ w.grownBy w' (some b) ∧ w'.heap.size = w.heap.size := by
  obtain ⟨arr, clock, hb, hl, ho⟩ := h
  have hgrown : ∀ o : Obj, w.grownBy { w with heap := w.heap.setIfInBounds b o } (some b) := fun o =>
    ⟨rfl, rfl, rfl, by simp, fun i _ hi => by
      have : b ≠ i := fun e => hi (by rw [e])
      simp [Array.getElem?_setIfInBounds, this]⟩
  have hlt : b < w.heap.size := (Array.getElem?_eq_some_iff.1 hb).1
  rcases K.find ev k arr.toList l w hk ho hl with ⟨h1, h2⟩ | ⟨i, u, h1, h2, h3, h4⟩
  · refine ⟨{ w with heap := w.heap.setIfInBounds b (.map (arr.push { key := K.enc k, val := ev v, born := clock }) (clock + 1)) }, ?_, ⟨arr.push { key := K.enc k, val := ev v, born := clock }, clock + 1, ?_, ?_, ?_⟩, hgrown _, ?_⟩
    · simp only [Instr.mapUpdate, run_underlying ht, MapKept.run_getObj_map hb, K.check _ _ _ hk, h1, Result.andThen, Sem.run_bind, Sem.run_pure]
      exact MapKept.run_setObj_map _ hb
    · simp [Array.getElem?_setIfInBounds, hlt]
    · rw [mput_new k v l h2]
      simp [hl]
    · rw [mput_new k v l h2]
      intro p hp
      rcases List.mem_append.1 hp with hp | hp
      · exact ho p hp
      · simp at hp; subst hp; exact hk
    · simp
  · have hi : i < arr.size := by
      have hi' := (List.getElem?_eq_some_iff.1 h2).1
      have e1 : arr.size = l.length := by simpa using congrArg List.length hl
      omega
    have hkey : arr[i].key = K.enc k := by
      have e2 : (arr.toList.map (fun e => (e.key, e.val)))[i]? = (l.map (fun p => (K.enc p.1, ev p.2)))[i]? := by rw [hl]
      simp [hi, h2] at e2
      exact e2.1
    have hstay : ∀ w : World, (Instr.keyThatStays (((arr[i]?).map (·.key)).getD (K.enc k)) (K.enc k)).run P w = .ok (K.enc k) w := by
      intro w
      simp [hi, hkey, Instr.keyThatStays, K.same]
    refine ⟨{ w with heap := w.heap.setIfInBounds b (.map (arr.modify i fun e => { e with key := K.enc k, val := ev v }) clock) }, ?_, ⟨arr.modify i fun e => { e with key := K.enc k, val := ev v }, clock, ?_, ?_, ?_⟩, hgrown _, ?_⟩
    · simp only [Instr.mapUpdate, run_underlying ht, MapKept.run_getObj_map hb, K.check _ _ _ hk, h1, Result.andThen, Sem.run_bind, Sem.run_pure, hstay]
      exact MapKept.run_setObj_map _ hb
    · simp [Array.getElem?_setIfInBounds, hlt]
    · rw [h4 v, List.map_set, ← hl]
      apply List.ext_getElem?
      intro j
      by_cases hj : j = i
      · subst hj
        simp [Array.getElem?_modify, hi, hkey, List.getElem?_set]
      · have hj' : i ≠ j := fun e => hj e.symm
        simp [Array.getElem?_modify, hj', List.getElem?_set]
    · rw [h4 v]
      intro p hp
      rcases List.mem_or_eq_of_mem_set hp with hp | hp
      · exact ho p hp
      · subst hp; exact hk
    · simp
end maps

end Go.Proofs.YtjjpmbaddpiamaaDoor
