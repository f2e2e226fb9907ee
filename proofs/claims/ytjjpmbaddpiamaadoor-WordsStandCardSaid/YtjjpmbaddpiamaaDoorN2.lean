/-
  What an argument reads as, with how much of it there can be: nested structs, types that lead back into themselves, words of 64 bits.
-/
import Derived.Test.YtjjpmbaddpiamaaDoorN
import Derived.SizedLaws
set_option linter.unusedSimpArgs false
set_option linter.unusedVariables false
namespace Go.Proofs.YtjjpmbaddpiamaaDoor
open Go.RowKit Go.ChangeShapes
section
variable {H : Type} {enc : TypeId × Value → H} {P : Program} {w : World}
/-- No part of it is heavier than the reach. -/
def SizedD (P : Program) (t : TypeId) (d : DataW H) : Prop := ∀ n ∈ d.weights P t, n ≤ reachBytes
/-- Whatever reads as data of type t, in so many steps, and no part of it too heavy: values of which p speaks. -/
def SRd (H : Type) (enc : TypeId × Value → H) (P : Program) (w : World) (N : Nat) (t : TypeId) (p : List V → Prop) : Prop := ∀ fuel, fuel ≤ N → ∀ cs x, DataW.trod enc P w 0 (fun _ => true) true fuel t cs = some x → SizedD P t x.1 → ∃ vs, p vs ∧ RLs P w (InW w) vs cs
theorem SRd.mono {M N : Nat} {t : TypeId} {p : List V → Prop} (h : SRd H enc P w N t p) (hn : M ≤ N) : SRd H enc P w M t p := fun fuel hf => h fuel (Nat.le_trans hf hn)
theorem SRd.zero {t : TypeId} {p : List V → Prop} : SRd H enc P w 0 t p := fun fuel hf cs x hx => by
  obtain rfl : fuel = 0 := by omega
  simp [DataW.trod] at hx
theorem SRd.imp {N : Nat} {t : TypeId} {p q : List V → Prop} (h : SRd H enc P w N t p) (hpq : ∀ vs, p vs → q vs) : SRd H enc P w N t q := fun fuel hf cs x hx hs => by
  obtain ⟨vs, h1, h2⟩ := h fuel hf cs x hx hs
  exact ⟨vs, hpq vs h1, h2⟩
theorem RLs_one {S : Nat → Prop} {v : V} {c : Value} (h : RL P w S v c) : RLs P w S [v] [c] := by rw [RLs_cons]; exact ⟨h, by rw [RLs]; trivial⟩
theorem SRd.int {N : Nat} {t : TypeId} {k : IntKind} (ht : P.underlying t = some (.int k)) : SRd H enc P w N t fun vs => ∃ n : Int, vs = [.int k n] := fun fuel _ cs x hx _ => by
  obtain ⟨n, rfl, _, _⟩ := DataW.trod_int ht hx
  exact ⟨_, ⟨n, rfl⟩, RLs_one (by rw [RL])⟩
theorem SRd.u64 {N : Nat} {t : TypeId} (ht : P.underlying t = some (.int .u64)) : SRd H enc P w N t fun vs => ∃ x : BitVec 64, vs = [.int .u64 x.toNat] := fun fuel _ cs x hx _ => by
  obtain ⟨n, rfl, _, hwf⟩ := DataW.trod_int ht hx
  have hr : 0 ≤ n ∧ n < 18446744073709551616 := by
    simp [Lit.wf, IntKind.min, IntKind.max, IntKind.signed, IntKind.bits] at hwf
    omega
  refine ⟨_, ⟨BitVec.ofInt 64 n, rfl⟩, RLs_one ?_⟩
  rw [RL, BitVec.toNat_ofInt]
  congr 1
  omega
theorem SRd.bool {N : Nat} {t : TypeId} (ht : P.underlying t = some .bool) : SRd H enc P w N t fun vs => ∃ b : Bool, vs = [.bool b] := fun fuel _ cs x hx _ => by
  obtain ⟨n, rfl, _⟩ := DataW.trod_bool ht hx
  exact ⟨_, ⟨n, rfl⟩, RLs_one (by rw [RL])⟩
theorem weightsAll_mem {e : TypeId} {n : Nat} : ∀ {l : List (DataW H)} {d : DataW H}, d ∈ l → n ∈ d.weights P e → n ∈ DataW.weightsAll P e l
  | d' :: l, d, hd, hn => by
    rw [DataW.weightsAll, List.mem_append]
    rcases List.mem_cons.1 hd with rfl | hd
    · exact .inl hn
    · exact .inr (weightsAll_mem hd hn)
theorem SRd.slice {α : Type} {f : α → V} {q : α → Prop} {N : Nat} {t e : TypeId} {z : Value} {size bytes : Nat} {pe : List V → Prop} (ht : P.underlying t = some (.slice e)) (hi : TI P e z size bytes) (h0 : 0 < size) (he : SRd H enc P w N e pe) (hcl : ∀ vs, pe vs → ∃ a, q a ∧ (f a = .agg vs ∨ ((∀ l, f a ≠ .agg l) ∧ vs = [f a]))) :
    SRd H enc P w (N + 1) t fun vs => ∃ l : List α, vs = [.sl e (l.map f)] ∧ l.length * bytes ≤ reachBytes ∧ ∀ a ∈ l, q a := fun fuel hfu cs x hx hsz => by
  rcases DataW.trod_slice ht hx with ⟨rfl, _⟩ | ⟨a, len, cap, elems, rest, n, rfl, rfl, rfl, _, hl, _, hlen, hel, _, _⟩
  · exact ⟨_, ⟨[], rfl, by simp, by simp⟩, RLs_one (by rw [RL]; exact ⟨none, 0, rfl, Nat.le_refl _, .inl rfl⟩)⟩
  · have hb : P.bytesOf e = bytes := by
      obtain ⟨i, h1, _, _, h4⟩ := hi.get
      simp [Program.bytesOf, h1, h4]
    simp only [SizedD, DataW.weights, ht, List.mem_cons, List.mem_append] at hsz
    have hel' : ∀ i, i < len → ∃ cs' y, w.cells? 0 (a.add (i * P.cellsOf e)) (P.cellsOf e) = some cs' ∧ DataW.trod enc P w 0 (fun _ => true) true n e cs' = some y ∧ y ∈ elems := fun i hil => by
      have key := hel i hil
      rw [List.getElem?_eq_getElem (by omega)] at key
      obtain ⟨cs', h1, h2⟩ := Option.bind_eq_some_iff.1 key
      exact ⟨cs', _, h1, h2, List.getElem_mem (by omega)⟩
    obtain ⟨l, h1, h2⟩ := each_choose (n := len) (q := fun i (b : α) => q b ∧ ∃ cs', w.cells? 0 (a.add (i * P.cellsOf e)) (P.cellsOf e) = some cs' ∧ RX P w (InW w) (f b) cs') fun i hil => by
      obtain ⟨cs', y, k1, k2, k3⟩ := hel' i hil
      obtain ⟨vs, k4, k5⟩ := he n (by omega) cs' _ k2 (fun m hm => hsz m (.inr (.inl (weightsAll_mem (List.mem_map_of_mem k3) hm))))
      obtain ⟨b, hq, hb⟩ := hcl vs k4
      refine ⟨b, hq, cs', k1, ?_⟩
      rcases hb with hb | ⟨hb, rfl⟩
      · rw [hb]; exact k5
      · have : ∃ c, cs' = [c] ∧ RL P w (InW w) (f b) c := by
          match cs', k5 with
          | [c], k5 => rw [RLs_cons] at k5; exact ⟨c, rfl, k5.1⟩
          | [], k5 => simp [RLs] at k5
          | _ :: _ :: _, k5 => rw [RLs_cons] at k5; simp [RLs] at k5
        revert this hb
        cases f b <;> intro hb this <;> first | exact this | exact absurd rfl (hb _)
    refine ⟨_, ⟨l, rfl, ?_, fun b hb => ?_⟩, RLs_one ?_⟩
    · have := hsz _ (.inl rfl)
      rw [hb] at this
      simp only [List.length_map] at this
      have h3 : l.length * bytes ≤ (elems.length + rest.length) * bytes := Nat.mul_le_mul_right _ (by omega)
      omega
    · obtain ⟨i, hi', rfl⟩ := List.mem_iff_getElem.1 hb
      exact (h2 i _ (List.getElem?_eq_getElem hi')).1
    · rw [RL]
      refine ⟨some a, cap, by simp [h1], by simpa [h1] using hl, ?_⟩
      rcases Nat.eq_zero_or_pos len with hz | hz
      · left; exact List.eq_nil_of_length_eq_zero (by simp [h1, hz])
      · right
        refine ⟨a, rfl, ?_, RLrow.of_get _ 0 fun i x hx => ?_⟩
        · obtain ⟨cs', _, k1, _⟩ := hel' 0 hz
          have := World.cells?_block k1 (by rw [hi.cells]; exact h0)
          rwa [add_block] at this
        · rw [List.getElem?_map, Option.map_eq_some_iff] at hx
          obtain ⟨b, hb, rfl⟩ := hx
          obtain ⟨_, cs', k1, k2⟩ := h2 i b hb
          obtain ⟨_, k3, k4⟩ := World.cells?_some k1
          refine ⟨cs', k3, fun j u hu => ?_, k2⟩
          have hj : j < P.cellsOf e := by rw [← k3]; exact (List.getElem?_eq_some_iff.1 hu).1
          rw [Nat.zero_add, ← Go.Proofs.YtjjpmbaddpiamaaDoor.add_add]
          exact (k4 j hj).trans hu
/-- A struct's fields, with the cells of each. -/
def FldS (H : Type) (enc : TypeId × Value → H) (P : Program) (w : World) (N tot : Nat) : Nat → List Field → List (Nat × (List V → Prop)) → Prop
  | off, [], [] => off = tot
  | off, f :: fs, (k, p) :: ps => f.offset = off ∧ P.cellsOf f.type = k ∧ SRd H enc P w N f.type p ∧ FldS H enc P w N tot (off + k) fs ps
  | _, _, _ => False
def AllLs : List (Nat × (List V → Prop)) → List (List V) → Prop
  | [], [] => True
  | (_, p) :: ps, v :: vs => p v ∧ AllLs ps vs
  | _, _ => False
theorem RLs_append {S : Nat → Prop} : ∀ {a : List V} {c : List Value} {b : List V} {d : List Value}, RLs P w S a c → RLs P w S b d → RLs P w S (a ++ b) (c ++ d)
  | [], [], _, _, _, h => h
  | v :: a, x :: c, b, d, h, h' => by
    rw [RLs_cons] at h
    show RLs P w S (v :: (a ++ b)) (x :: (c ++ d))
    rw [RLs_cons]; exact ⟨h.1, RLs_append h.2 h'⟩
  | [], _ :: _, _, _, h, _ => by simp [RLs] at h
  | _ :: _, [], _, _, h, _ => by simp [RLs] at h
theorem fldS_read (cs : List Value) {N n : Nat} (hn : n ≤ N) : ∀ (fs : List Field) (off : Nat) (ps : List (Nat × (List V → Prop))), FldS H enc P w N cs.length off fs ps → (∀ f ∈ fs, ∃ x, DataW.trod enc P w 0 (fun _ => true) true n f.type ((cs.drop f.offset).take (P.cellsOf f.type)) = some x ∧ SizedD P f.type x.1) →
    ∃ vss, AllLs ps vss ∧ RLs P w (InW w) vss.flatten (cs.drop off)
  | [], off, [], hl, _ => ⟨[], trivial, by have : off = cs.length := hl; rw [List.drop_of_length_le (by omega)]; simp [RLs]⟩
  | f :: fs, off, (k, p) :: ps, ⟨h1, h2, h3, h4⟩, hx => by
    obtain ⟨x, hx0, hs0⟩ := hx f (List.mem_cons_self ..)
    obtain ⟨vs, k1, k2⟩ := h3 n hn _ _ hx0 hs0
    obtain ⟨vss, k4, k5⟩ := fldS_read cs hn fs (off + k) ps h4 fun g hg => hx g (List.mem_cons_of_mem _ hg)
    refine ⟨vs :: vss, ⟨k1, k4⟩, ?_⟩
    rw [List.flatten_cons, show cs.drop off = (cs.drop off).take k ++ cs.drop (off + k) by rw [← List.drop_drop, List.take_append_drop]]
    rw [h1, h2] at k2
    exact RLs_append k2 k5
  | [], _, _ :: _, h, _ => h.elim
  | _ :: _, _, [], h, _ => h.elim
theorem SRd.struct {N tot : Nat} {t : TypeId} {fs : Array Field} {ps : List (Nat × (List V → Prop))} {p : List V → Prop} {z : Value} {bytes : Nat} (ht : P.underlying t = some (.struct fs)) (hi : TI P t z tot bytes) (hf : FldS H enc P w N tot 0 fs.toList ps) (hp : ∀ vss, AllLs ps vss → p vss.flatten) : SRd H enc P w (N + 1) t p := fun fuel hfu cs x hx hsz => by
  obtain ⟨xs, n, rfl, rfl, hlen, hxl, hel⟩ := DataW.trod_struct ht hx
  rw [hi.cells] at hlen
  simp only [SizedD, DataW.weights, ht] at hsz
  rw [← hlen] at hf
  obtain ⟨vss, h1, h2⟩ := fldS_read cs (n := n) (by omega) fs.toList 0 ps hf fun f hf' => by
    obtain ⟨i, hi', rfl⟩ := List.mem_iff_getElem.1 hf'
    have hi2 : i < fs.size := by simpa using hi'
    have := hel i fs[i] (by simp [hi2])
    rw [List.getElem?_eq_getElem (by omega)] at this
    refine ⟨xs[i]'(by omega), by simpa using this, fun m hm => hsz m (DataW.weights_mem_each (j := i) (t := fs.toList[i].type) (d := (xs[i]'(by omega)).1) (by simp [hi2]) (by simp [show i < xs.length by omega]) m hm)⟩
  exact ⟨_, hp vss h1, by simpa using h2⟩
/-- An argument that is a struct; one that is one cell. -/
theorem SRd.arg {t : TypeId} {p : List V → Prop} (h : ∀ N, SRd H enc P w N t p) {arr : Array Value} {d : DataW H} {ps : List MemPlace} (hd : DataW.Trod enc P w 0 (fun _ => true) true t (.agg arr) d ps) (hs : SizedD P t d) : ∃ vs, p vs ∧ VR P w (InW w) (fun _ _ => none) (.agg vs) (.agg arr) := by
  obtain ⟨fuel, hf⟩ := hd
  obtain ⟨vs, h1, h2⟩ := h fuel fuel (Nat.le_refl _) _ _ hf hs
  refine ⟨vs, h1, ?_⟩
  rw [VR]
  exact ⟨arr, rfl, VRs.of_RLs (by simpa [Value.cells] using h2)⟩
theorem SRd.arg1 {t : TypeId} {p : List V → Prop} (h : ∀ N, SRd H enc P w N t p) {v : Value} (hv : v.cells = #[v]) {d : DataW H} {ps : List MemPlace} (hd : DataW.Trod enc P w 0 (fun _ => true) true t v d ps) (hs : SizedD P t d) : ∃ vs, p vs ∧ ∀ u, vs = [u] → VR P w (InW w) (fun _ _ => none) u v := by
  obtain ⟨fuel, hf⟩ := hd
  obtain ⟨vs, h1, h2⟩ := h fuel fuel (Nat.le_refl _) _ _ hf hs
  refine ⟨vs, h1, fun u hu => ?_⟩
  subst hu
  rw [hv] at h2
  have h3 : RLs P w (InW w) [u] [v] := h2
  rw [RLs_cons] at h3
  exact VR.of_leaf h3.1
theorem sized_arg {ts : List TypeId} {ds : List (DataW H)} {j : Nat} {t : TypeId} {d : DataW H} (h : (DataW.weightsEach P ts ds).all (· ≤ reachBytes) = true) (ht : ts[j]? = some t) (hd : ds[j]? = some d) : SizedD P t d := fun n hn => by
  simpa using List.all_eq_true.1 h n (DataW.weights_mem_each ht hd n hn)
end
end Go.Proofs.YtjjpmbaddpiamaaDoor
