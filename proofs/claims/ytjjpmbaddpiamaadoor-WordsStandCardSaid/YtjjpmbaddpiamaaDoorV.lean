/-
  An abstract machine for calls that only make new memory: values as trees, objects of the call's own by numbers, and how they stand for the model's values and heap.
-/
import Derived.Test.YtjjpmbaddpiamaaDoorTabM
import Derived.Below
import Derived.Laws.AppendOwn
set_option linter.unusedSimpArgs false
set_option linter.unusedVariables false
namespace Go.Proofs.YtjjpmbaddpiamaaDoor
open Go.RowKit

/-- What a map holds, in the order in which its keys came. -/
inductive MP where
  | ints (l : List (Int × Value))
  | strs (l : List (ByteArray × Value))
  | pairs (l : List ((Int × Int) × Value))
def MP.ent : MP → List (Value × Value)
  | .ints l => l.map fun p => (.int .i64 p.1, p.2)
  | .strs l => l.map fun p => (.string p.1, p.2)
  | .pairs l => l.map fun p => (.agg #[.int .i64 p.1.1, .int .i64 p.1.2], p.2)
def MP.holds (m : MP) (arr : Array MapEntry) : Prop := arr.toList.map (fun e => (e.key, e.val)) = m.ent

/-- Keys. -/
inductive MK where
  | int (k : Int)
  | str (k : ByteArray)
  | pair (k : Int × Int)
  | tup (l : List Int)
deriving DecidableEq
def pairVal (p : Int × Int) : Value := .agg #[.int .i64 p.1, .int .i64 p.2]
def MK.val : MK → Value
  | .int k => .int .i64 k
  | .str k => .string k
  | .pair k => pairVal k
  | .tup l => .agg (l.map (Value.int .i64)).toArray
/-- Values. sl, nil: slices that are only read, with what they hold; ptr: into an object of the call's own; ref: into what is only read; row: a slice of the call's own; rptr: into such a slice. -/
inductive V where
  | int (k : IntKind) (n : Int)
  | bool (b : Bool)
  | str (s : ByteArray)
  | nil
  | sl (e : TypeId) (xs : List V)
  | any (c : Value)
  | top
  | agg (cs : List V)
  | tup (vs : List V)
  | fn (f : FuncId) (cap : List V)
  | ptr (g d off : Nat)
  | ref (cs : List V)
  | row (g d n : Nat)
  | rptr (e : TypeId) (g d i o : Nat)
  | map (g d : Nat)
  | yld (g d : Nat)
  | mp (m : MP)

def V.cells : V → List V
  | .agg l => l
  | v => [v]

abbrev At := Nat → Nat → Option Value

section rel
variable (P : Program) (w : World) (S : Nat → Prop)
mutual
/-- What one cell of memory that is only read says. -/
def RL : V → Value → Prop
  | .int k n, c => c = .int k n
  | .bool b, c => c = .bool b
  | .str s, c => c = .string s
  | .nil, c => c = .slice none 0 0
  | .sl e xs, c => ∃ A cp, c = .slice A xs.length cp ∧ xs.length ≤ cp ∧ (xs = [] ∨ ∃ ad, A = some ad ∧ S ad.block ∧ RLrow e ad 0 xs)
  | .any x, c => c = x ∧ x.oneCell' = true
  | .mp m, c => ∃ b arr clock, c = .map (some b) ∧ S b ∧ w.heap[b]? = some (.map arr clock) ∧ m.holds arr
  | _, _ => False
def RLs : List V → List Value → Prop
  | [], [] => True
  | v :: vs, c :: cs => RL v c ∧ RLs vs cs
  | _, _ => False
/-- A row of elements of type e from element i on. -/
def RLrow (e : TypeId) (ad : Addr) : Nat → List V → Prop
  | _, [] => True
  | i, x :: xs => (∃ cs : List Value, cs.length = P.cellsOf e ∧ (∀ j u, cs[j]? = some u → w.cell? (ad.add (i * P.cellsOf e + j)) = some u) ∧
      (match x with
        | .agg l => RLs l cs
        | v => ∃ c, cs = [c] ∧ RL v c)) ∧ RLrow e ad (i + 1) xs
end
/-- An element's cells. -/
def RX : V → List Value → Prop
  | .agg l, cs => RLs P w S l cs
  | v, cs => ∃ c, cs = [c] ∧ RL P w S v c
theorem RLrow_cons (e : TypeId) (ad : Addr) (i : Nat) (x : V) (xs : List V) : RLrow P w S e ad i (x :: xs) ↔
    (∃ cs : List Value, cs.length = P.cellsOf e ∧ (∀ j u, cs[j]? = some u → w.cell? (ad.add (i * P.cellsOf e + j)) = some u) ∧ RX P w S x cs) ∧ RLrow P w S e ad (i + 1) xs := by
  rw [RLrow]
  cases x <;> simp [RX]
theorem RLs_cons (v : V) (vs : List V) (c : Value) (cs : List Value) : RLs P w S (v :: vs) (c :: cs) ↔ RL P w S v c ∧ RLs P w S vs cs := by rw [RLs]

/-- A value's whole. -/
def RU : V → Value → Prop
  | .agg l, c => ∃ arr : Array Value, c = .agg arr ∧ RLs P w S l arr.toList
  | v, c => RL P w S v c
def RUs : List V → List Value → Prop
  | [], [] => True
  | v :: vs, x :: xs => RU P w S v x ∧ RUs vs xs
  | _, _ => False
def RV : V → Value → Prop
  | .tup l, c => ∃ arr : Array Value, c = .tuple arr ∧ RUs P w S l arr.toList
  | v, c => RU P w S v c

theorem RV_iff {v : V} (hv : ∀ l, v ≠ .tup l) (c : Value) : RV P w S v c ↔ RU P w S v c := by
  cases v <;> first | exact absurd rfl (hv _) | exact Iff.rfl
theorem RU_iff {v : V} (hv : ∀ l, v ≠ .agg l) (c : Value) : RU P w S v c ↔ RL P w S v c := by
  cases v <;> first | exact absurd rfl (hv _) | exact Iff.rfl
variable (at_ : At)
mutual
/-- What a value of a frame, or a cell of an object of the call's own, says. -/
def VR : V → Value → Prop
  | .agg l, c => ∃ arr : Array Value, c = .agg arr ∧ VRs l arr.toList
  | .tup l, c => ∃ arr : Array Value, c = .tuple arr ∧ VRs l arr.toList
  | .fn f cap, c => ∃ arr : Array Value, c = .func (.func f) #[] arr ∧ VRs cap arr.toList
  | .ptr g d off, c => ∃ b, at_ g d = some (.pointer (some ⟨b, 0, none⟩)) ∧ c = .pointer (some ⟨b, off, none⟩)
  | .row g d n, c => ∃ A m cp, at_ g d = some (.slice A m cp) ∧ n ≤ m ∧ c = .slice A n cp
  | .rptr e g d i o, c => ∃ b m cp, at_ g d = some (.slice (some ⟨b, 0, none⟩) m cp) ∧ c = .pointer (some ⟨b, i * P.cellsOf e + o, none⟩)
  | .map g d, c => ∃ b, at_ g d = some (.map (some b)) ∧ c = .map (some b)
  | .yld g d, c => ∃ b, at_ g d = some (.pointer (some ⟨b, 0, none⟩)) ∧ c = .func (.yield b) #[] #[]
  | .ref cs, c => ∃ ad vals, c = .pointer (some ad) ∧ S ad.block ∧ RLs P w S cs vals ∧ ∀ j u, vals[j]? = some u → w.cell? (ad.add j) = some u
  | .int k n, c => RL P w S (.int k n) c
  | .bool b, c => RL P w S (.bool b) c
  | .str s, c => RL P w S (.str s) c
  | .nil, c => RL P w S .nil c
  | .any x, c => RL P w S (.any x) c
  | .mp m, c => RL P w S (.mp m) c
  | .top, _ => True
  | .sl e xs, c => RL P w S (.sl e xs) c
def VRs : List V → List Value → Prop
  | [], [] => True
  | v :: vs, c :: cs => VR v c ∧ VRs vs cs
  | _, _ => False
end
end rel

section mono
variable {P : Program} {w w' : World} {S S' : Nat → Prop} {at_ at' : At}
theorem cell_same {w w' : World} {a : Addr} (h : w'.heap[a.block]? = w.heap[a.block]?) : w'.cell? a = w.cell? a := World.cell?_of_block h
theorem add_block (a : Addr) (n : Nat) : (a.add n).block = a.block := by unfold Addr.add; split <;> rfl
mutual
theorem RL.mono (hS : ∀ b, S b → S' b) (hw : ∀ b, S b → w'.heap[b]? = w.heap[b]?) : ∀ (v : V) (c : Value), RL P w S v c → RL P w' S' v c
  | .int _ _, _, h => by simpa only [RL] using h
  | .bool _, _, h => by simpa only [RL] using h
  | .str _, _, h => by simpa only [RL] using h
  | .nil, _, h => by simpa only [RL] using h
  | .any _, _, h => by simpa only [RL] using h
  | .mp m, _, h => by
    simp only [RL] at h ⊢
    obtain ⟨b, arr, clock, h1, h2, h3, h4⟩ := h
    exact ⟨b, arr, clock, h1, hS _ h2, (hw _ h2).trans h3, h4⟩
  | .sl e xs, c, h => by
    simp only [RL] at h ⊢
    obtain ⟨A, cp, h1, h2, h3⟩ := h
    refine ⟨A, cp, h1, h2, ?_⟩
    rcases h3 with h3 | ⟨ad, h4, h5, h6⟩
    · exact .inl h3
    · exact .inr ⟨ad, h4, hS _ h5, RLrow.mono hS hw e ad h5 0 xs h6⟩
  | .top, _, h => by simp [RL] at h
  | .agg _, _, h => by simp [RL] at h
  | .tup _, _, h => by simp [RL] at h
  | .fn _ _, _, h => by simp [RL] at h
  | .ptr _ _ _, _, h => by simp [RL] at h
  | .ref _, _, h => by simp [RL] at h
  | .row _ _ _, _, h => by simp [RL] at h
  | .rptr _ _ _ _ _, _, h => by simp [RL] at h
  | .map _ _, _, h => by simp [RL] at h
  | .yld _ _, _, h => by simp [RL] at h
theorem RLs.mono (hS : ∀ b, S b → S' b) (hw : ∀ b, S b → w'.heap[b]? = w.heap[b]?) : ∀ (vs : List V) (cs : List Value), RLs P w S vs cs → RLs P w' S' vs cs
  | [], [], _ => by simp [RLs]
  | [], _ :: _, h => by simp [RLs] at h
  | _ :: _, [], h => by simp [RLs] at h
  | v :: vs, c :: cs, h => by
    rw [RLs] at h ⊢
    exact ⟨RL.mono hS hw v c h.1, RLs.mono hS hw vs cs h.2⟩
theorem RLrow.mono (hS : ∀ b, S b → S' b) (hw : ∀ b, S b → w'.heap[b]? = w.heap[b]?) (e : TypeId) (ad : Addr) (had : S ad.block) : ∀ (i : Nat) (xs : List V), RLrow P w S e ad i xs → RLrow P w' S' e ad i xs
  | _, [], _ => by simp [RLrow]
  | i, x :: xs, h => by
    have hc : ∀ n, w'.cell? (ad.add n) = w.cell? (ad.add n) := fun n => cell_same (by rw [add_block]; exact hw _ had)
    rw [RLrow] at h ⊢
    obtain ⟨⟨cs, h1, h2, h3⟩, h4⟩ := h
    refine ⟨⟨cs, h1, fun j u hu => (hc _).trans (h2 j u hu), ?_⟩, RLrow.mono hS hw e ad had (i + 1) xs h4⟩
    cases x with
    | agg l => exact RLs.mono hS hw l cs h3
    | int k n => obtain ⟨c, h5, h6⟩ := h3; exact ⟨c, h5, RL.mono hS hw (.int k n) c h6⟩
    | bool b => obtain ⟨c, h5, h6⟩ := h3; exact ⟨c, h5, RL.mono hS hw (.bool b) c h6⟩
    | str s => obtain ⟨c, h5, h6⟩ := h3; exact ⟨c, h5, RL.mono hS hw (.str s) c h6⟩
    | nil => obtain ⟨c, h5, h6⟩ := h3; exact ⟨c, h5, RL.mono hS hw .nil c h6⟩
    | any q => obtain ⟨c, h5, h6⟩ := h3; exact ⟨c, h5, RL.mono hS hw (.any q) c h6⟩
    | mp q => obtain ⟨c, h5, h6⟩ := h3; exact ⟨c, h5, RL.mono hS hw (.mp q) c h6⟩
    | sl e' ys => obtain ⟨c, h5, h6⟩ := h3; exact ⟨c, h5, RL.mono hS hw (.sl e' ys) c h6⟩
    | top => obtain ⟨c, h5, h6⟩ := h3; simp [RL] at h6
    | tup _ => obtain ⟨c, h5, h6⟩ := h3; simp [RL] at h6
    | fn _ _ => obtain ⟨c, h5, h6⟩ := h3; simp [RL] at h6
    | ptr _ _ _ => obtain ⟨c, h5, h6⟩ := h3; simp [RL] at h6
    | ref _ => obtain ⟨c, h5, h6⟩ := h3; simp [RL] at h6
    | row _ _ _ => obtain ⟨c, h5, h6⟩ := h3; simp [RL] at h6
    | rptr _ _ _ _ _ => obtain ⟨c, h5, h6⟩ := h3; simp [RL] at h6
    | map _ _ => obtain ⟨c, h5, h6⟩ := h3; simp [RL] at h6
    | yld _ _ => obtain ⟨c, h5, h6⟩ := h3; simp [RL] at h6
end
theorem RX.mono (hS : ∀ b, S b → S' b) (hw : ∀ b, S b → w'.heap[b]? = w.heap[b]?) (v : V) (cs : List Value) (h : RX P w S v cs) : RX P w' S' v cs := by
  cases v with
  | agg l => simp only [RX] at h ⊢; exact RLs.mono hS hw l cs h
  | _ => simp only [RX] at h ⊢; obtain ⟨c, h5, h6⟩ := h; exact ⟨c, h5, RL.mono hS hw _ c h6⟩
theorem VR.of_leaf {v : V} {c : Value} (h : RL P w S v c) : VR P w S at_ v c := by
  cases v <;> first | (rw [VR]; exact h) | (simp [RL] at h)
mutual
theorem VR.mono (hS : ∀ b, S b → S' b) (hw : ∀ b, S b → w'.heap[b]? = w.heap[b]?) (ha : ∀ g d v, at_ g d = some v → at' g d = some v) : ∀ (v : V) (c : Value), VR P w S at_ v c → VR P w' S' at' v c
  | .int k n, c, h => VR.of_leaf (RL.mono hS hw _ _ (by rw [VR] at h; exact h))
  | .bool _, _, h => VR.of_leaf (RL.mono hS hw _ _ (by rw [VR] at h; exact h))
  | .str _, _, h => VR.of_leaf (RL.mono hS hw _ _ (by rw [VR] at h; exact h))
  | .nil, _, h => VR.of_leaf (RL.mono hS hw _ _ (by rw [VR] at h; exact h))
  | .any _, _, h => VR.of_leaf (RL.mono hS hw _ _ (by rw [VR] at h; exact h))
  | .mp _, _, h => VR.of_leaf (RL.mono hS hw _ _ (by rw [VR] at h; exact h))
  | .sl _ _, _, h => VR.of_leaf (RL.mono hS hw _ _ (by rw [VR] at h; exact h))
  | .top, _, _ => by rw [VR]; trivial
  | .agg l, c, h => by
    rw [VR] at h ⊢
    obtain ⟨arr, h1, h2⟩ := h
    exact ⟨arr, h1, VRs.mono hS hw ha l _ h2⟩
  | .tup l, c, h => by
    rw [VR] at h ⊢
    obtain ⟨arr, h1, h2⟩ := h
    exact ⟨arr, h1, VRs.mono hS hw ha l _ h2⟩
  | .fn f l, c, h => by
    rw [VR] at h ⊢
    obtain ⟨arr, h1, h2⟩ := h
    exact ⟨arr, h1, VRs.mono hS hw ha l _ h2⟩
  | .ptr _ _ _, _, h => by rw [VR] at h ⊢; obtain ⟨b, h1, h2⟩ := h; exact ⟨b, ha _ _ _ h1, h2⟩
  | .row _ _ _, _, h => by rw [VR] at h ⊢; obtain ⟨A, m, cp, h1, h2⟩ := h; exact ⟨A, m, cp, ha _ _ _ h1, h2⟩
  | .rptr _ _ _ _ _, _, h => by rw [VR] at h ⊢; obtain ⟨b, m, cp, h1, h2⟩ := h; exact ⟨b, m, cp, ha _ _ _ h1, h2⟩
  | .map _ _, _, h => by rw [VR] at h ⊢; obtain ⟨b, h1, h2⟩ := h; exact ⟨b, ha _ _ _ h1, h2⟩
  | .yld _ _, _, h => by rw [VR] at h ⊢; obtain ⟨b, h1, h2⟩ := h; exact ⟨b, ha _ _ _ h1, h2⟩
  | .ref cs, _, h => by
    rw [VR] at h ⊢
    obtain ⟨ad, vals, h1, h2, h3, h4⟩ := h
    exact ⟨ad, vals, h1, hS _ h2, RLs.mono hS hw _ _ h3, fun j u hu => (cell_same (by rw [add_block]; exact hw _ h2)).trans (h4 j u hu)⟩
theorem VRs.mono (hS : ∀ b, S b → S' b) (hw : ∀ b, S b → w'.heap[b]? = w.heap[b]?) (ha : ∀ g d v, at_ g d = some v → at' g d = some v) : ∀ (vs : List V) (cs : List Value), VRs P w S at_ vs cs → VRs P w' S' at' vs cs
  | [], [], _ => by simp [VRs]
  | [], _ :: _, h => by simp [VRs] at h
  | _ :: _, [], h => by simp [VRs] at h
  | v :: vs, c :: cs, h => by
    rw [VRs] at h ⊢
    exact ⟨VR.mono hS hw ha v c h.1, VRs.mono hS hw ha vs cs h.2⟩
end
end mono
end Go.Proofs.YtjjpmbaddpiamaaDoor
