/-
  Letters, digits, names; how many letters of a sort a text begins with; the library's functions on texts.
-/
import Derived.Test.YtjjpmbaddpiamaaDoorZ14
import Derived.Test.YtjjpmbaddpiamaaDoorF
import Derived.Test.YtjjpmbaddpiamaaDoorSh
import Derived.Lib.ParseIntBTie
import Derived.Lib.AtoiErrMem
set_option linter.unusedSimpArgs false
set_option linter.unusedVariables false
set_option maxHeartbeats 4000000
namespace Go.Proofs.YtjjpmbaddpiamaaDoor
open Go.RowKit
attribute [local irreducible] Wk Tr
abbrev iV (n : Int) : V := .int .i64 n
def letB (c : Int) : Bool := decide (97 ≤ c) && decide (c ≤ 122) || decide (65 ≤ c) && decide (c ≤ 90) || decide (c = 95)
def digB (c : Int) : Bool := decide (48 ≤ c) && decide (c ≤ 57)
def alnB (c : Int) : Bool := letB c || digB c
theorem letB_lt {c : Int} (h : 128 ≤ c) : letB c = false := by simp [letB]; omega
theorem digB_lt {c : Int} (h : 128 ≤ c) : digB c = false := by simp [digB]; omega
theorem alnB_lt {c : Int} (h : 128 ≤ c) : alnB c = false := by rw [alnB, letB_lt h, digB_lt h]; rfl
def nameB (s : ByteArray) : Bool := !(decide (s = ⟨#[]⟩) || decide (64 < (s.size : Int)) || !letB (bt s 0)) && decide (∀ j < s.size, alnB (bt s j) = true)
theorem size_pos {s : ByteArray} (h : s ≠ ⟨#[]⟩) : 0 < s.size := by
  obtain ⟨⟨l⟩⟩ := s
  cases l with
  | nil => exact absurd rfl h
  | cons a l => simp [ByteArray.size]
theorem wrap_i32 {n : Int} (h0 : 0 ≤ n) (h1 : n < 1000000) : IntKind.i32.wrap n = n := IntWalk.i32_in n (by omega)
theorem flipF {b : Bool} (h : (!b) = false) : b = true := by simpa using h
theorem flipT {b : Bool} (h : (!b) = true) : b = false := by simpa using h
theorem ext_lt {p : Nat → Prop} {i : Nat} (h : ∀ j < i, p j) (hi : p i) : ∀ j < i + 1, p j := fun j hj => by
  rcases Nat.lt_succ_iff_lt_or_eq.1 hj with h1 | rfl
  · exact h j h1
  · exact hi
/-- How many bytes from i on are of a sort. -/
def rowA (p : Int → Bool) (s : ByteArray) : Nat → Nat → Nat
  | 0, i => i
  | f + 1, i => if i < s.size ∧ p (bt s i) = true then rowA p s f (i + 1) else i
def rowN (p : Int → Bool) (s : ByteArray) : Nat := rowA p s s.size 0
theorem rowA_eq {p : Int → Bool} {s : ByteArray} {n : Nat} (hn : n ≤ s.size) (he : n = s.size ∨ p (bt s n) = false) : ∀ f i, i ≤ n → n ≤ i + f → (∀ j, i ≤ j → j < n → p (bt s j) = true) → rowA p s f i = n
  | 0, i, h1, h2, _ => by rw [rowA]; omega
  | f + 1, i, h1, h2, h3 => by
    rw [rowA]
    by_cases h : i = n
    · subst h
      rw [if_neg]
      rintro ⟨h4, h5⟩
      rcases he with he | he
      · omega
      · rw [he] at h5; cases h5
    · rw [if_pos ⟨by omega, h3 i (Nat.le_refl _) (by omega)⟩]
      exact rowA_eq hn he f (i + 1) (by omega) (by omega) fun j h4 h5 => h3 j (by omega) h5
theorem rowN_eq {p : Int → Bool} {s : ByteArray} {n : Nat} (hn : n ≤ s.size) (he : n = s.size ∨ p (bt s n) = false) (h : ∀ j < n, p (bt s j) = true) : rowN p s = n := rowA_eq hn he _ _ (Nat.zero_le _) (by omega) fun j _ => h j
theorem rowA_spec {p : Int → Bool} {s : ByteArray} : ∀ f i, s.size ≤ i + f → i ≤ s.size → i ≤ rowA p s f i ∧ rowA p s f i ≤ s.size ∧ (rowA p s f i = s.size ∨ p (bt s (rowA p s f i)) = false) ∧ ∀ j, i ≤ j → j < rowA p s f i → p (bt s j) = true
  | 0, i, h1, h2 => by rw [rowA]; exact ⟨Nat.le_refl _, h2, .inl (by omega), fun j _ _ => by omega⟩
  | f + 1, i, h1, h2 => by
    rw [rowA]
    split
    · rename_i h
      obtain ⟨h3, h4, h5, h6⟩ := rowA_spec (p := p) (s := s) f (i + 1) (by omega) h.1
      refine ⟨by omega, h4, h5, fun j h7 h8 => ?_⟩
      by_cases h9 : j = i
      · rw [h9]; exact h.2
      · exact h6 j (by omega) h8
    · rename_i h
      refine ⟨Nat.le_refl _, h2, ?_, fun j _ _ => by omega⟩
      by_cases h3 : i < s.size
      · right
        by_cases h4 : p (bt s i) = true
        · exact absurd ⟨h3, h4⟩ h
        · simpa using h4
      · left; omega
theorem rowN_spec (p : Int → Bool) (s : ByteArray) : rowN p s ≤ s.size ∧ (rowN p s = s.size ∨ p (bt s (rowN p s)) = false) ∧ ∀ j < rowN p s, p (bt s j) = true := by
  obtain ⟨_, h2, h3, h4⟩ := rowA_spec (p := p) (s := s) s.size 0 (by omega) (Nat.zero_le _)
  exact ⟨h2, h3, fun j => h4 j (Nat.zero_le _)⟩
theorem rowN_all {p : Int → Bool} {s : ByteArray} : rowN p s = s.size ↔ ∀ j < s.size, p (bt s j) = true := by
  constructor
  · intro h j hj
    exact (rowN_spec p s).2.2 j (by omega)
  · intro h
    exact rowN_eq (Nat.le_refl _) (.inl rfl) h
/-- The texts that are numbers: the whole number that is printed so. -/
def numB (s : ByteArray) : Bool := match Lib.parseIntB 64 s.data.toList with
  | .ok n => decide (⟨(Lib.itoa n).toArray⟩ = s)
  | _ => false
def signs : List UInt8 := [123,125,40,41,59,44,58,61,42,43,63,124,46,33,38]
def signB (s : ByteArray) : Bool := decide (s = ⟨#[45, 62]⟩) || decide (s.size = 1) && decide (0 ≤ Lib.indexByte signs (s.data.toList.headD 0))
def ownL : List ByteArray := [⟨#[118,97,114]⟩, ⟨#[112,114,111,99]⟩, ⟨#[115,107,105,112]⟩, ⟨#[109,97,114,107]⟩, ⟨#[99,108,101,97,110]⟩, ⟨#[115,105,110,107]⟩, ⟨#[99,97,108,108]⟩, ⟨#[102,114,111,109]⟩, ⟨#[101,105,116,104,101,114]⟩, ⟨#[111,114]⟩, ⟨#[108,111,111,112]⟩, ⟨#[114,101,116,117,114,110]⟩, ⟨#[97,116]⟩]
def ownB (s : ByteArray) : Bool := ownL.any fun x => decide (x = s)
def nameS (s : ByteArray) : Bool := nameB s && !ownB s
def rightB (s : ByteArray) (k : Int) : Bool := if k = 1 then nameB s else if k = 2 then numB s else if k = 3 then signB s else false
def kindN (s : ByteArray) : Int := if nameB s then 1 else if numB s then 2 else if signB s then 3 else 0
/-- The library's functions. -/
theorem contains1 (s : ByteArray) (h1 : s.size = 1) : FnC Tryd.prog 46 [.str ⟨#[123,125,40,41,59,44,58,61,42,43,63,124,46,33,38]⟩, .str s] (fun r => r = .bool (decide (0 ≤ Lib.indexByte signs (s.data.toList.headD 0)))) := by
  obtain ⟨c, rfl⟩ : ∃ c : UInt8, s = ⟨#[c]⟩ := by
    obtain ⟨⟨l⟩⟩ := s
    match l, h1 with
    | [c], _ => exact ⟨c, rfl⟩
  refine FnC.lib [.string ⟨#[123,125,40,41,59,44,58,61,42,43,63,124,46,33,38]⟩, .string ⟨#[c]⟩] (fun w S cs hc => ?_) fun w hg => ?_
  · match cs, hc with
    | [x, y], hc => simp only [VRs, VR, RL, and_true] at hc; rw [hc.1, hc.2]
  · refine (Tryd.strings_Contains_one _ c w).mono ?_
    rintro e w' ⟨rfl, rfl⟩
    exact ⟨_, _, rfl, Below.refl _ _, fun S => (by simp only [RV, RU, RL]; rfl), rfl⟩
theorem hasPrefix (s p : ByteArray) : FnC Tryd.prog 63 [.str s, .str p] (fun r => r = .bool (Lib.hasPrefix s.data.toList p.data.toList)) := by
  refine FnC.lib [.string s, .string p] (fun w S cs hc => ?_) fun w hg => ?_
  · match cs, hc with
    | [x, y], hc => simp only [VRs, VR, RL, and_true] at hc; rw [hc.1, hc.2]
  · refine (Tryd.strings_HasPrefix s p w).mono ?_
    rintro e w' ⟨rfl, rfl⟩
    exact ⟨_, _, rfl, Below.refl _ _, fun S => (by simp only [RV, RU, RL]), rfl⟩
theorem formatInt (n : Int) (h0 : -9223372036854775808 ≤ n) (h1 : n ≤ 9223372036854775807) : FnC Tryd.prog 45 [iV n, iV 10] (fun r => r = .str ⟨(Lib.itoa n).toArray⟩) := by
  refine FnC.lib [.int .i64 n, .int .i64 10] (fun w S cs hc => ?_) fun w hg => ?_
  · match cs, hc with
    | [x, y], hc => simp only [VRs, VR, RL, and_true] at hc; rw [hc.1, hc.2]
  · refine (Tryd.strconv_FormatInt_10 n h0 h1 w hg.2.1).mono ?_
    rintro e w' ⟨rfl, k, os, rfl⟩
    exact ⟨_, _, rfl, Lib.below_grow _ _ (Nat.le_refl _) _ _, fun S => (by simp only [RV, RU, RL]), rfl⟩
/-- What a text is as a number: it, and no error; or some error. -/
theorem parseInt (s : ByteArray) (hs : s.size ≤ 281474976710656) : FnC Tryd.prog 44 [.str s, iV 10, iV 64] (fun r => (∃ n, Lib.parseIntB 64 s.data.toList = .ok n ∧ r = .tup [iV n, .any .nilIface]) ∨ ((∀ n, Lib.parseIntB 64 s.data.toList ≠ .ok n) ∧ ∃ n t p, r = .tup [iV n, .any (.iface t p)])) := by
  refine FnC.lib [.string s, .int .i64 10, .int .i64 64] (fun w S cs hc => ?_) fun w hg => ?_
  · match cs, hc with
    | [x, y, z], hc => simp only [VRs, VR, RL, and_true] at hc; rw [hc.1, hc.2.1, hc.2.2]
  · obtain ⟨hg0, htab, ⟨t1, p1, hE1⟩, ⟨t2, p2, hE2⟩⟩ := hg
    cases hp : Lib.parseIntB 64 s.data.toList with
    | ok n =>
      refine (Any.strconv_ParseInt_10_at64_ok Tryd.laysC174 s (by omega) n hp w).mono ?_
      rintro e w' ⟨rfl, hw⟩
      refine ⟨_, .tup [iV n, .any .nilIface], rfl, ?_, fun S => ?_, .inl ⟨n, rfl, rfl⟩⟩
      · rcases hw with rfl | ⟨t, rfl⟩
        · exact Below.refl _ _
        · exact Lib.bytesWorld_below _ _ _
      · exact ⟨_, rfl, by simp [RUs, RU, RL, Value.oneCell']⟩
    | «syntax» =>
      refine (Any.strconv_ParseInt_10_at64_syntax Tryd.laysC174 s hs hp (.iface t2 p2) w hE2 (.inr ⟨t2, p2, rfl⟩)).mono ?_
      rintro e w' ⟨b, rfl, _, _, hb⟩
      exact ⟨_, .tup [iV 0, .any (.iface (Tryd.laysC174_ren.t 168) (.pointer (some ⟨b, 0, none⟩)))], rfl, hb, fun S => ⟨_, rfl, by simp [RUs, RU, RL, Value.oneCell']⟩, .inr ⟨fun n h => (by cases h), _, _, _, rfl⟩⟩
    | range =>
      refine (Any.strconv_ParseInt_10_at64_range Tryd.laysC174 s hs hp (.iface t1 p1) w hE1 (.inr ⟨t1, p1, rfl⟩)).mono ?_
      rintro e w' ⟨b, rfl, _, _, hb⟩
      exact ⟨_, .tup [iV (Lib.intSat 64 s.data.toList), .any (.iface (Tryd.laysC174_ren.t 168) (.pointer (some ⟨b, 0, none⟩)))], rfl, hb, fun S => ⟨_, rfl, by simp [RUs, RU, RL, Value.oneCell']⟩, .inr ⟨fun n h => (by cases h), _, _, _, rfl⟩⟩

theorem letterP (c : Int) : FnC Tryd.prog 39 [.int .i32 c] (fun r => r = .bool (letB c)) := by
  refine FnC.of (fn := Tryd.f39) ⟨Tryd.func39, by kernel_rfl, rfl⟩ Tryd.ntmps39 (by simp) fun w0 S0 => ?_
  refine p_go ?_
  refine p_ret1 (hp := by rfl)

theorem digitP (c : Int) : FnC Tryd.prog 43 [.int .i32 c] (fun r => r = .bool (digB c)) := by
  refine FnC.of (fn := Tryd.f43) ⟨Tryd.func43, by kernel_rfl, rfl⟩ Tryd.ntmps43 (by simp) fun w0 S0 => ?_
  refine p_go ?_
  refine p_ret1 (hp := by rfl)

theorem alnP (c : Int) : FnC Tryd.prog 42 [.int .i32 c] (fun r => r = .bool (alnB c)) := by
  refine FnC.of (fn := Tryd.f42) ⟨Tryd.func42, by kernel_rfl, rfl⟩ Tryd.ntmps42 (by simp) fun w0 S0 => ?_
  refine p_go fun hf => ?_
  refine p_call (hx := rfl) (hb := ⟨Tryd.func39, by kernel_rfl, rfl⟩) (hf := letterP _) (h := ?_)
  refine p_go fun hf => ?_
  refine p_split (s := 5) (ht := fun hb5 => ?_) (hf := fun hb5 => ?_)
  · -- slot 5 is true
    refine p_go ?_
    refine p_ret1 (hp := by unfold alnB; rw [hb5]; simp)
  · -- slot 5 is false
    refine p_go fun hf => ?_
    refine p_call (hx := rfl) (hb := ⟨Tryd.func43, by kernel_rfl, rfl⟩) (hf := digitP _) (h := ?_)
    refine p_go ?_
    refine p_ret1 (hp := by unfold alnB; rw [hb5]; simp)

theorem alnQ (c : Int) : FnC Tryd.prog 62 [.int .i32 c] (fun r => r = .bool (alnB c)) := by
  refine FnC.of (fn := Tryd.f62) ⟨Tryd.func62, by kernel_rfl, rfl⟩ Tryd.ntmps62 (by simp) fun w0 S0 => ?_
  refine p_go fun hf => ?_
  refine p_call (hx := rfl) (hb := ⟨Tryd.func39, by kernel_rfl, rfl⟩) (hf := letterP _) (h := ?_)
  refine p_go fun hf => ?_
  refine p_split (s := 5) (ht := fun hb5 => ?_) (hf := fun hb5 => ?_)
  · -- slot 5 is true
    refine p_go ?_
    refine p_ret1 (hp := by unfold alnB; rw [hb5]; simp)
  · -- slot 5 is false
    refine p_go fun hf => ?_
    refine p_call (hx := rfl) (hb := ⟨Tryd.func43, by kernel_rfl, rfl⟩) (hf := digitP _) (h := ?_)
    refine p_go ?_
    refine p_ret1 (hp := by unfold alnB; rw [hb5]; simp)

theorem atP (s : ByteArray) (i : Nat) : FnC Tryd.prog 40 [.str s, iV i] (fun r => r = .int .i32 (bt s i)) := by
  refine FnC.of (fn := Tryd.f40) ⟨Tryd.func40, by kernel_rfl, rfl⟩ Tryd.ntmps40 (by simp) fun w0 S0 => ?_
  refine p_go ?_
  refine p_splitC (s := 8) (ht := fun hc8 => ?_) (hf := fun hc8 => ?_)
  · refine p_go fun hf => ?_
    refine p_idxB (i) (hj := by simpa using hc8) (h := ?_)
    refine p_conv (hs := Tryd.underlying5) (ht := Tryd.underlying21) (h := ?_)
    refine p_go ?_
    refine p_ret1 (hp := by congr 1; have h9 := bt_range s i; exact wrap_i32 (by omega) (by omega))
  · refine p_go ?_
    refine p_ret1 (hp := by rw [bt_ge (by simpa using hc8)])

theorem rowP {f : FuncId} {fn : Func} {code : Code} {pr : Int → Bool} (hb : HasBody Tryd.prog f fn code) (hcal : ∀ c, FnC Tryd.prog f [.int .i32 c] fun r => r = .bool (pr c)) (hpr : ∀ c, 128 ≤ c → pr c = false) (s : ByteArray) : FnC Tryd.prog 41 [.str s, .fn f []] (fun r => r = iV (rowN pr s)) := by
  refine FnC.of (fn := Tryd.f41) ⟨Tryd.func41, by kernel_rfl, rfl⟩ Tryd.ntmps41 (by simp) fun w0 S0 => ?_
  refine p_go fun hf => ?_
  refine p_rangeS (h := ?_)
  refine p_go ?_
  refine p_loopK [0, 1, 8] [] (fun st => ∃ i : Nat, (i ≤ s.size) ∧ (∀ j < i, pr (bt s j) = true) ∧ st.obj (0 + 1 + 1) 8 = .sit s i) (fun st => s.size - (st.obj (0 + 1 + 1) 8).sitN) ?_ fun e ob g1 hK hO hI => ?_
  · exact ⟨0, by omega, (fun j hj => absurd hj (by omega)), oB_⟩
  · obtain ⟨i, hi, hn, ob8⟩ := hI
    dsimp only at ob8
    simp only [valsE, List.cons.injEq, and_true] at hK
    have hE := (⟨hK, ob8⟩ : _ ∧ _)
    refine p_go fun hf => ?_
    refine p_nextS (h1 := fun c wd hp hw hlo hhi => ?_) (h2 := fun hp => ?_)
    · refine p_go fun hf => ?_
      refine p_call (hb := hb) (hf := hcal c) (h := ?_)
      refine p_go ?_
      refine p_splitC (s := 16) (ht := fun hc16 => ?_) (hf := fun hc16 => ?_)
      · have hc : pr c = false := by simpa using hc16
        refine p_go ?_
        refine p_ret1 (hp := by rw [rowN_eq hi (.inr (if h9 : bt s i < 128 then (hlo h9).1 ▸ hc else hpr _ (by omega))) hn])
      · have hc : pr c = true := by simpa using hc16
        have hlt : bt s i < 128 := Int.lt_of_not_ge fun h => by rw [hpr c (hhi (by omega))] at hc; cases hc
        obtain ⟨rfl, rfl⟩ := hlo hlt
        refine p_go ?_
        refine p_some ?_
        refine ⟨⟨(by simp (decide := true) only [valsE, evE, upd, cv, args0, argsFrom, List.length_map, ↓reduceIte, hE] <;> rfl), (by simp (decide := true) only [valsO, updO, upd, true_and, and_true, false_and, and_false, ↓reduceIte, hE] <;> rfl)⟩, ⟨i + 1, hp, ext_lt hn hc, oB_⟩, ?_⟩
        simp (decide := true) only [updO, ob8, Ob.sitN, true_and, and_true, ↓reduceIte]; omega
    · refine p_go ?_
      refine p_ret1 (hp := by rw [rowN_eq hi (.inl (by omega)) hn, show s.size = i by omega])
end Go.Proofs.YtjjpmbaddpiamaaDoor
