/-
  Closed facts on the program's types and functions. Written by a program (facts.py) out of the translation.
-/
import Derived.Test.YtjjpmbaddpiamaaDoorX
import Derived.Test.YtjjpmbaddpiamaaDoorProg
set_option linter.unusedSimpArgs false
set_option linter.unusedVariables false
namespace Go.Proofs.YtjjpmbaddpiamaaDoor.F
open Go.RowKit
instance ti1 : TIC Tryd.prog 1 (.nilFunc) 1 8 := ⟨by unfold TI; kernel_rfl⟩
instance leaf1 : LeafC Tryd.prog 1 := ⟨⟨_, Tryd.underlying1, rfl⟩⟩
instance ti2 : TIC Tryd.prog 2 (.int .i64 0) 1 8 := ⟨by unfold TI; kernel_rfl⟩
instance leaf2 : LeafC Tryd.prog 2 := ⟨⟨_, Tryd.underlying2, rfl⟩⟩
instance ti3 : TIC Tryd.prog 3 (.int .i64 0) 1 8 := ⟨by unfold TI; kernel_rfl⟩
instance leaf3 : LeafC Tryd.prog 3 := ⟨⟨_, Tryd.underlying3, rfl⟩⟩
instance ti4 : TIC Tryd.prog 4 (.bool false) 1 1 := ⟨by unfold TI; kernel_rfl⟩
instance leaf4 : LeafC Tryd.prog 4 := ⟨⟨_, Tryd.underlying4, rfl⟩⟩
instance ti5 : TIC Tryd.prog 5 (.int .u8 0) 1 1 := ⟨by unfold TI; kernel_rfl⟩
instance leaf5 : LeafC Tryd.prog 5 := ⟨⟨_, Tryd.underlying5, rfl⟩⟩
instance ti6 : TIC Tryd.prog 6 (.int .u8 0) 1 1 := ⟨by unfold TI; kernel_rfl⟩
instance leaf6 : LeafC Tryd.prog 6 := ⟨⟨_, Tryd.underlying6, rfl⟩⟩
instance ti7 : TIC Tryd.prog 7 (.agg #[.int .i64 0, .int .i64 0, .bool false, .int .u8 0]) 4 24 := ⟨by unfold TI; kernel_rfl⟩
instance agg7 : AggC Tryd.prog 7 := ⟨⟨_, Tryd.underlying7, rfl⟩⟩
instance fld7_0 : FldC Tryd.prog 7 0 0 := ⟨⟨_, _, _, _, _, Tryd.underlying7, rfl, rfl, ti2.h, by decide⟩⟩
instance fld7_1 : FldC Tryd.prog 7 1 1 := ⟨⟨_, _, _, _, _, Tryd.underlying7, rfl, rfl, ti3.h, by decide⟩⟩
instance fld7_2 : FldC Tryd.prog 7 2 2 := ⟨⟨_, _, _, _, _, Tryd.underlying7, rfl, rfl, ti4.h, by decide⟩⟩
instance fld7_3 : FldC Tryd.prog 7 3 3 := ⟨⟨_, _, _, _, _, Tryd.underlying7, rfl, rfl, ti6.h, by decide⟩⟩
instance pl7 : PlC Tryd.prog 7 ((#[(0, 1), (1, 1), (2, 1), (3, 1)] : Array (Nat × Nat))[·]?) := ⟨.inl ⟨_, _, Tryd.underlying7, fun w => by kernel_rfl, rfl⟩⟩
instance ti8 : TIC Tryd.prog 8 (.agg #[.int .i64 0, .int .i64 0, .bool false, .int .u8 0]) 4 24 := ⟨by unfold TI; kernel_rfl⟩
instance agg8 : AggC Tryd.prog 8 := ⟨⟨_, Tryd.underlying8, rfl⟩⟩
instance fld8_0 : FldC Tryd.prog 8 0 0 := ⟨⟨_, _, _, _, _, Tryd.underlying8, rfl, rfl, ti2.h, by decide⟩⟩
instance fld8_1 : FldC Tryd.prog 8 1 1 := ⟨⟨_, _, _, _, _, Tryd.underlying8, rfl, rfl, ti3.h, by decide⟩⟩
instance fld8_2 : FldC Tryd.prog 8 2 2 := ⟨⟨_, _, _, _, _, Tryd.underlying8, rfl, rfl, ti4.h, by decide⟩⟩
instance fld8_3 : FldC Tryd.prog 8 3 3 := ⟨⟨_, _, _, _, _, Tryd.underlying8, rfl, rfl, ti6.h, by decide⟩⟩
instance pl8 : PlC Tryd.prog 8 ((#[(0, 1), (1, 1), (2, 1), (3, 1)] : Array (Nat × Nat))[·]?) := ⟨.inl ⟨_, _, Tryd.underlying8, fun w => by kernel_rfl, rfl⟩⟩
instance ti9 : TIC Tryd.prog 9 (.string ⟨#[]⟩) 1 16 := ⟨by unfold TI; kernel_rfl⟩
instance leaf9 : LeafC Tryd.prog 9 := ⟨⟨_, Tryd.underlying9, rfl⟩⟩
instance str9 : StrC Tryd.prog 9 := ⟨Tryd.underlying9⟩
instance ti10 : TIC Tryd.prog 10 (.string ⟨#[]⟩) 1 16 := ⟨by unfold TI; kernel_rfl⟩
instance leaf10 : LeafC Tryd.prog 10 := ⟨⟨_, Tryd.underlying10, rfl⟩⟩
instance str10 : StrC Tryd.prog 10 := ⟨Tryd.underlying10⟩
instance ti11 : TIC Tryd.prog 11 (.string ⟨#[]⟩) 1 16 := ⟨by unfold TI; kernel_rfl⟩
instance leaf11 : LeafC Tryd.prog 11 := ⟨⟨_, Tryd.underlying11, rfl⟩⟩
instance str11 : StrC Tryd.prog 11 := ⟨Tryd.underlying11⟩
instance ti12 : TIC Tryd.prog 12 (.int .u64 0) 1 8 := ⟨by unfold TI; kernel_rfl⟩
instance leaf12 : LeafC Tryd.prog 12 := ⟨⟨_, Tryd.underlying12, rfl⟩⟩
instance ti13 : TIC Tryd.prog 13 (.agg #[.string ⟨#[]⟩, .int .u64 0]) 2 24 := ⟨by unfold TI; kernel_rfl⟩
instance agg13 : AggC Tryd.prog 13 := ⟨⟨_, Tryd.underlying13, rfl⟩⟩
instance fld13_0 : FldC Tryd.prog 13 0 0 := ⟨⟨_, _, _, _, _, Tryd.underlying13, rfl, rfl, ti9.h, by decide⟩⟩
instance fld13_1 : FldC Tryd.prog 13 1 1 := ⟨⟨_, _, _, _, _, Tryd.underlying13, rfl, rfl, ti12.h, by decide⟩⟩
instance pl13 : PlC Tryd.prog 13 ((#[(0, 1), (1, 1)] : Array (Nat × Nat))[·]?) := ⟨.inl ⟨_, _, Tryd.underlying13, fun w => by kernel_rfl, rfl⟩⟩
instance ti14 : TIC Tryd.prog 14 (.agg #[.string ⟨#[]⟩, .int .u64 0]) 2 24 := ⟨by unfold TI; kernel_rfl⟩
instance agg14 : AggC Tryd.prog 14 := ⟨⟨_, Tryd.underlying14, rfl⟩⟩
instance fld14_0 : FldC Tryd.prog 14 0 0 := ⟨⟨_, _, _, _, _, Tryd.underlying14, rfl, rfl, ti9.h, by decide⟩⟩
instance fld14_1 : FldC Tryd.prog 14 1 1 := ⟨⟨_, _, _, _, _, Tryd.underlying14, rfl, rfl, ti12.h, by decide⟩⟩
instance pl14 : PlC Tryd.prog 14 ((#[(0, 1), (1, 1)] : Array (Nat × Nat))[·]?) := ⟨.inl ⟨_, _, Tryd.underlying14, fun w => by kernel_rfl, rfl⟩⟩
instance ti15 : TIC Tryd.prog 15 (.pointer none) 1 8 := ⟨by unfold TI; kernel_rfl⟩
instance leaf15 : LeafC Tryd.prog 15 := ⟨⟨_, Tryd.underlying15, rfl⟩⟩
instance ti16 : TIC Tryd.prog 16 (.pointer none) 1 8 := ⟨by unfold TI; kernel_rfl⟩
instance leaf16 : LeafC Tryd.prog 16 := ⟨⟨_, Tryd.underlying16, rfl⟩⟩
instance ti17 : TIC Tryd.prog 17 (.pointer none) 1 8 := ⟨by unfold TI; kernel_rfl⟩
instance leaf17 : LeafC Tryd.prog 17 := ⟨⟨_, Tryd.underlying17, rfl⟩⟩
instance ti18 : TIC Tryd.prog 18 (.agg #[.pointer none]) 1 8 := ⟨by unfold TI; kernel_rfl⟩
instance agg18 : AggC Tryd.prog 18 := ⟨⟨_, Tryd.underlying18, rfl⟩⟩
instance fld18_0 : FldC Tryd.prog 18 0 0 := ⟨⟨_, _, _, _, _, Tryd.underlying18, rfl, rfl, ti17.h, by decide⟩⟩
instance pl18 : PlC Tryd.prog 18 ((#[(0, 1)] : Array (Nat × Nat))[·]?) := ⟨.inl ⟨_, _, Tryd.underlying18, fun w => by kernel_rfl, rfl⟩⟩
instance ti19 : TIC Tryd.prog 19 (.agg #[.pointer none]) 1 8 := ⟨by unfold TI; kernel_rfl⟩
instance agg19 : AggC Tryd.prog 19 := ⟨⟨_, Tryd.underlying19, rfl⟩⟩
instance fld19_0 : FldC Tryd.prog 19 0 0 := ⟨⟨_, _, _, _, _, Tryd.underlying19, rfl, rfl, ti17.h, by decide⟩⟩
instance pl19 : PlC Tryd.prog 19 ((#[(0, 1)] : Array (Nat × Nat))[·]?) := ⟨.inl ⟨_, _, Tryd.underlying19, fun w => by kernel_rfl, rfl⟩⟩
instance ti20 : TIC Tryd.prog 20 (.nilIface) 1 16 := ⟨by unfold TI; kernel_rfl⟩
instance leaf20 : LeafC Tryd.prog 20 := ⟨⟨_, Tryd.underlying20, rfl⟩⟩
instance ti21 : TIC Tryd.prog 21 (.int .i32 0) 1 4 := ⟨by unfold TI; kernel_rfl⟩
instance leaf21 : LeafC Tryd.prog 21 := ⟨⟨_, Tryd.underlying21, rfl⟩⟩
instance ti22 : TIC Tryd.prog 22 (.nilFunc) 1 8 := ⟨by unfold TI; kernel_rfl⟩
instance leaf22 : LeafC Tryd.prog 22 := ⟨⟨_, Tryd.underlying22, rfl⟩⟩
instance ti23 : TIC Tryd.prog 23 (.slice none 0 0) 1 24 := ⟨by unfold TI; kernel_rfl⟩
instance leaf23 : LeafC Tryd.prog 23 := ⟨⟨_, Tryd.underlying23, rfl⟩⟩
instance sl23 : SlC Tryd.prog 23 29 := ⟨Tryd.underlying23⟩
instance ti24 : TIC Tryd.prog 24 (.int .i64 0) 1 8 := ⟨by unfold TI; kernel_rfl⟩
instance leaf24 : LeafC Tryd.prog 24 := ⟨⟨_, Tryd.underlying24, rfl⟩⟩
instance ti26 : TIC Tryd.prog 26 (.nilFunc) 1 8 := ⟨by unfold TI; kernel_rfl⟩
instance leaf26 : LeafC Tryd.prog 26 := ⟨⟨_, Tryd.underlying26, rfl⟩⟩
instance ti27 : TIC Tryd.prog 27 (.int .i64 0) 1 8 := ⟨by unfold TI; kernel_rfl⟩
instance leaf27 : LeafC Tryd.prog 27 := ⟨⟨_, Tryd.underlying27, rfl⟩⟩
instance ti28 : TIC Tryd.prog 28 (.agg #[.int .i64 0, .string ⟨#[]⟩, .int .i64 0, .int .i64 0]) 4 40 := ⟨by unfold TI; kernel_rfl⟩
instance agg28 : AggC Tryd.prog 28 := ⟨⟨_, Tryd.underlying28, rfl⟩⟩
instance fld28_0 : FldC Tryd.prog 28 0 0 := ⟨⟨_, _, _, _, _, Tryd.underlying28, rfl, rfl, ti27.h, by decide⟩⟩
instance fld28_1 : FldC Tryd.prog 28 1 1 := ⟨⟨_, _, _, _, _, Tryd.underlying28, rfl, rfl, ti9.h, by decide⟩⟩
instance fld28_2 : FldC Tryd.prog 28 2 2 := ⟨⟨_, _, _, _, _, Tryd.underlying28, rfl, rfl, ti3.h, by decide⟩⟩
instance fld28_3 : FldC Tryd.prog 28 3 3 := ⟨⟨_, _, _, _, _, Tryd.underlying28, rfl, rfl, ti3.h, by decide⟩⟩
instance pl28 : PlC Tryd.prog 28 ((#[(0, 1), (1, 1), (2, 1), (3, 1)] : Array (Nat × Nat))[·]?) := ⟨.inl ⟨_, _, Tryd.underlying28, fun w => by kernel_rfl, rfl⟩⟩
instance ti29 : TIC Tryd.prog 29 (.agg #[.int .i64 0, .string ⟨#[]⟩, .int .i64 0, .int .i64 0]) 4 40 := ⟨by unfold TI; kernel_rfl⟩
instance agg29 : AggC Tryd.prog 29 := ⟨⟨_, Tryd.underlying29, rfl⟩⟩
instance fld29_0 : FldC Tryd.prog 29 0 0 := ⟨⟨_, _, _, _, _, Tryd.underlying29, rfl, rfl, ti27.h, by decide⟩⟩
instance fld29_1 : FldC Tryd.prog 29 1 1 := ⟨⟨_, _, _, _, _, Tryd.underlying29, rfl, rfl, ti9.h, by decide⟩⟩
instance fld29_2 : FldC Tryd.prog 29 2 2 := ⟨⟨_, _, _, _, _, Tryd.underlying29, rfl, rfl, ti3.h, by decide⟩⟩
instance fld29_3 : FldC Tryd.prog 29 3 3 := ⟨⟨_, _, _, _, _, Tryd.underlying29, rfl, rfl, ti3.h, by decide⟩⟩
instance pl29 : PlC Tryd.prog 29 ((#[(0, 1), (1, 1), (2, 1), (3, 1)] : Array (Nat × Nat))[·]?) := ⟨.inl ⟨_, _, Tryd.underlying29, fun w => by kernel_rfl, rfl⟩⟩
instance ti30 : TIC Tryd.prog 30 (.nilFunc) 1 8 := ⟨by unfold TI; kernel_rfl⟩
instance leaf30 : LeafC Tryd.prog 30 := ⟨⟨_, Tryd.underlying30, rfl⟩⟩
instance ti32 : TIC Tryd.prog 32 (.nilFunc) 1 8 := ⟨by unfold TI; kernel_rfl⟩
instance leaf32 : LeafC Tryd.prog 32 := ⟨⟨_, Tryd.underlying32, rfl⟩⟩
instance ti33 : TIC Tryd.prog 33 (.nilFunc) 1 8 := ⟨by unfold TI; kernel_rfl⟩
instance leaf33 : LeafC Tryd.prog 33 := ⟨⟨_, Tryd.underlying33, rfl⟩⟩
instance ti34 : TIC Tryd.prog 34 (.slice none 0 0) 1 24 := ⟨by unfold TI; kernel_rfl⟩
instance leaf34 : LeafC Tryd.prog 34 := ⟨⟨_, Tryd.underlying34, rfl⟩⟩
instance sl34 : SlC Tryd.prog 34 5 := ⟨Tryd.underlying34⟩
instance ti36 : TIC Tryd.prog 36 (.nilFunc) 1 8 := ⟨by unfold TI; kernel_rfl⟩
instance leaf36 : LeafC Tryd.prog 36 := ⟨⟨_, Tryd.underlying36, rfl⟩⟩
instance ti37 : TIC Tryd.prog 37 (.slice none 0 0) 1 24 := ⟨by unfold TI; kernel_rfl⟩
instance leaf37 : LeafC Tryd.prog 37 := ⟨⟨_, Tryd.underlying37, rfl⟩⟩
instance sl37 : SlC Tryd.prog 37 9 := ⟨Tryd.underlying37⟩
instance ti38 : TIC Tryd.prog 38 (.nilFunc) 1 8 := ⟨by unfold TI; kernel_rfl⟩
instance leaf38 : LeafC Tryd.prog 38 := ⟨⟨_, Tryd.underlying38, rfl⟩⟩
instance ti39 : TIC Tryd.prog 39 (.nilFunc) 1 8 := ⟨by unfold TI; kernel_rfl⟩
instance leaf39 : LeafC Tryd.prog 39 := ⟨⟨_, Tryd.underlying39, rfl⟩⟩
instance ti40 : TIC Tryd.prog 40 (.slice none 0 0) 1 24 := ⟨by unfold TI; kernel_rfl⟩
instance leaf40 : LeafC Tryd.prog 40 := ⟨⟨_, Tryd.underlying40, rfl⟩⟩
instance sl40 : SlC Tryd.prog 40 82 := ⟨Tryd.underlying40⟩
instance ti41 : TIC Tryd.prog 41 (.agg #[.slice none 0 0, .slice none 0 0]) 2 48 := ⟨by unfold TI; kernel_rfl⟩
instance agg41 : AggC Tryd.prog 41 := ⟨⟨_, Tryd.underlying41, rfl⟩⟩
instance fld41_0 : FldC Tryd.prog 41 0 0 := ⟨⟨_, _, _, _, _, Tryd.underlying41, rfl, rfl, ti37.h, by decide⟩⟩
instance fld41_1 : FldC Tryd.prog 41 1 1 := ⟨⟨_, _, _, _, _, Tryd.underlying41, rfl, rfl, ti40.h, by decide⟩⟩
instance pl41 : PlC Tryd.prog 41 ((#[(0, 1), (1, 1)] : Array (Nat × Nat))[·]?) := ⟨.inl ⟨_, _, Tryd.underlying41, fun w => by kernel_rfl, rfl⟩⟩
instance ti42 : TIC Tryd.prog 42 (.agg #[.slice none 0 0, .slice none 0 0]) 2 48 := ⟨by unfold TI; kernel_rfl⟩
instance agg42 : AggC Tryd.prog 42 := ⟨⟨_, Tryd.underlying42, rfl⟩⟩
instance fld42_0 : FldC Tryd.prog 42 0 0 := ⟨⟨_, _, _, _, _, Tryd.underlying42, rfl, rfl, ti37.h, by decide⟩⟩
instance fld42_1 : FldC Tryd.prog 42 1 1 := ⟨⟨_, _, _, _, _, Tryd.underlying42, rfl, rfl, ti40.h, by decide⟩⟩
instance pl42 : PlC Tryd.prog 42 ((#[(0, 1), (1, 1)] : Array (Nat × Nat))[·]?) := ⟨.inl ⟨_, _, Tryd.underlying42, fun w => by kernel_rfl, rfl⟩⟩
instance ti44 : TIC Tryd.prog 44 (.nilFunc) 1 8 := ⟨by unfold TI; kernel_rfl⟩
instance leaf44 : LeafC Tryd.prog 44 := ⟨⟨_, Tryd.underlying44, rfl⟩⟩
instance ti45 : TIC Tryd.prog 45 (.nilFunc) 1 8 := ⟨by unfold TI; kernel_rfl⟩
instance leaf45 : LeafC Tryd.prog 45 := ⟨⟨_, Tryd.underlying45, rfl⟩⟩
instance ti46 : TIC Tryd.prog 46 (.nilFunc) 1 8 := ⟨by unfold TI; kernel_rfl⟩
instance leaf46 : LeafC Tryd.prog 46 := ⟨⟨_, Tryd.underlying46, rfl⟩⟩
instance ti47 : TIC Tryd.prog 47 (.agg #[.int .i64 0, .int .i64 0, .int .i64 0]) 3 24 := ⟨by unfold TI; kernel_rfl⟩
instance agg47 : AggC Tryd.prog 47 := ⟨⟨_, Tryd.underlying47, rfl⟩⟩
instance fld47_0 : FldC Tryd.prog 47 0 0 := ⟨⟨_, _, _, _, _, Tryd.underlying47, rfl, rfl, ti3.h, by decide⟩⟩
instance fld47_1 : FldC Tryd.prog 47 1 1 := ⟨⟨_, _, _, _, _, Tryd.underlying47, rfl, rfl, ti3.h, by decide⟩⟩
instance fld47_2 : FldC Tryd.prog 47 2 2 := ⟨⟨_, _, _, _, _, Tryd.underlying47, rfl, rfl, ti24.h, by decide⟩⟩
instance pl47 : PlC Tryd.prog 47 ((#[(0, 1), (1, 1), (2, 1)] : Array (Nat × Nat))[·]?) := ⟨.inl ⟨_, _, Tryd.underlying47, fun w => by kernel_rfl, rfl⟩⟩
instance ti48 : TIC Tryd.prog 48 (.agg #[.int .i64 0, .int .i64 0, .int .i64 0]) 3 24 := ⟨by unfold TI; kernel_rfl⟩
instance agg48 : AggC Tryd.prog 48 := ⟨⟨_, Tryd.underlying48, rfl⟩⟩
instance fld48_0 : FldC Tryd.prog 48 0 0 := ⟨⟨_, _, _, _, _, Tryd.underlying48, rfl, rfl, ti3.h, by decide⟩⟩
instance fld48_1 : FldC Tryd.prog 48 1 1 := ⟨⟨_, _, _, _, _, Tryd.underlying48, rfl, rfl, ti3.h, by decide⟩⟩
instance fld48_2 : FldC Tryd.prog 48 2 2 := ⟨⟨_, _, _, _, _, Tryd.underlying48, rfl, rfl, ti24.h, by decide⟩⟩
instance pl48 : PlC Tryd.prog 48 ((#[(0, 1), (1, 1), (2, 1)] : Array (Nat × Nat))[·]?) := ⟨.inl ⟨_, _, Tryd.underlying48, fun w => by kernel_rfl, rfl⟩⟩
instance ti50 : TIC Tryd.prog 50 (.nilFunc) 1 8 := ⟨by unfold TI; kernel_rfl⟩
instance leaf50 : LeafC Tryd.prog 50 := ⟨⟨_, Tryd.underlying50, rfl⟩⟩
instance ti51 : TIC Tryd.prog 51 (.nilFunc) 1 8 := ⟨by unfold TI; kernel_rfl⟩
instance leaf51 : LeafC Tryd.prog 51 := ⟨⟨_, Tryd.underlying51, rfl⟩⟩
instance ti52 : TIC Tryd.prog 52 (.nilFunc) 1 8 := ⟨by unfold TI; kernel_rfl⟩
instance leaf52 : LeafC Tryd.prog 52 := ⟨⟨_, Tryd.underlying52, rfl⟩⟩
instance ti53 : TIC Tryd.prog 53 (.nilFunc) 1 8 := ⟨by unfold TI; kernel_rfl⟩
instance leaf53 : LeafC Tryd.prog 53 := ⟨⟨_, Tryd.underlying53, rfl⟩⟩
instance ti54 : TIC Tryd.prog 54 (.nilFunc) 1 8 := ⟨by unfold TI; kernel_rfl⟩
instance leaf54 : LeafC Tryd.prog 54 := ⟨⟨_, Tryd.underlying54, rfl⟩⟩
instance ti55 : TIC Tryd.prog 55 (.nilFunc) 1 8 := ⟨by unfold TI; kernel_rfl⟩
instance leaf55 : LeafC Tryd.prog 55 := ⟨⟨_, Tryd.underlying55, rfl⟩⟩
instance ti56 : TIC Tryd.prog 56 (.pointer none) 1 8 := ⟨by unfold TI; kernel_rfl⟩
instance leaf56 : LeafC Tryd.prog 56 := ⟨⟨_, Tryd.underlying56, rfl⟩⟩
instance ti57 : TIC Tryd.prog 57 (.agg #[.pointer none, .slice none 0 0]) 2 32 := ⟨by unfold TI; kernel_rfl⟩
instance agg57 : AggC Tryd.prog 57 := ⟨⟨_, Tryd.underlying57, rfl⟩⟩
instance fld57_0 : FldC Tryd.prog 57 0 0 := ⟨⟨_, _, _, _, _, Tryd.underlying57, rfl, rfl, ti56.h, by decide⟩⟩
instance fld57_1 : FldC Tryd.prog 57 1 1 := ⟨⟨_, _, _, _, _, Tryd.underlying57, rfl, rfl, ti34.h, by decide⟩⟩
instance pl57 : PlC Tryd.prog 57 ((#[(0, 1), (1, 1)] : Array (Nat × Nat))[·]?) := ⟨.inl ⟨_, _, Tryd.underlying57, fun w => by kernel_rfl, rfl⟩⟩
instance ti58 : TIC Tryd.prog 58 (.agg #[.pointer none, .slice none 0 0]) 2 32 := ⟨by unfold TI; kernel_rfl⟩
instance agg58 : AggC Tryd.prog 58 := ⟨⟨_, Tryd.underlying58, rfl⟩⟩
instance fld58_0 : FldC Tryd.prog 58 0 0 := ⟨⟨_, _, _, _, _, Tryd.underlying58, rfl, rfl, ti56.h, by decide⟩⟩
instance fld58_1 : FldC Tryd.prog 58 1 1 := ⟨⟨_, _, _, _, _, Tryd.underlying58, rfl, rfl, ti34.h, by decide⟩⟩
instance pl58 : PlC Tryd.prog 58 ((#[(0, 1), (1, 1)] : Array (Nat × Nat))[·]?) := ⟨.inl ⟨_, _, Tryd.underlying58, fun w => by kernel_rfl, rfl⟩⟩
instance ti59 : TIC Tryd.prog 59 (.nilIface) 1 16 := ⟨by unfold TI; kernel_rfl⟩
instance leaf59 : LeafC Tryd.prog 59 := ⟨⟨_, Tryd.underlying59, rfl⟩⟩
instance ti60 : TIC Tryd.prog 60 (.nilIface) 1 16 := ⟨by unfold TI; kernel_rfl⟩
instance leaf60 : LeafC Tryd.prog 60 := ⟨⟨_, Tryd.underlying60, rfl⟩⟩
instance ti61 : TIC Tryd.prog 61 (.nilFunc) 1 8 := ⟨by unfold TI; kernel_rfl⟩
instance leaf61 : LeafC Tryd.prog 61 := ⟨⟨_, Tryd.underlying61, rfl⟩⟩
instance ti63 : TIC Tryd.prog 63 (.nilFunc) 1 8 := ⟨by unfold TI; kernel_rfl⟩
instance leaf63 : LeafC Tryd.prog 63 := ⟨⟨_, Tryd.underlying63, rfl⟩⟩
instance ti64 : TIC Tryd.prog 64 (.nilFunc) 1 8 := ⟨by unfold TI; kernel_rfl⟩
instance leaf64 : LeafC Tryd.prog 64 := ⟨⟨_, Tryd.underlying64, rfl⟩⟩
instance ti65 : TIC Tryd.prog 65 (.nilFunc) 1 8 := ⟨by unfold TI; kernel_rfl⟩
instance leaf65 : LeafC Tryd.prog 65 := ⟨⟨_, Tryd.underlying65, rfl⟩⟩
instance ti66 : TIC Tryd.prog 66 (.nilFunc) 1 8 := ⟨by unfold TI; kernel_rfl⟩
instance leaf66 : LeafC Tryd.prog 66 := ⟨⟨_, Tryd.underlying66, rfl⟩⟩
instance ti67 : TIC Tryd.prog 67 (.agg #[.int .i64 0, .int .i64 0]) 2 16 := ⟨by unfold TI; kernel_rfl⟩
instance agg67 : AggC Tryd.prog 67 := ⟨⟨_, Tryd.underlying67, rfl⟩⟩
instance fld67_0 : FldC Tryd.prog 67 0 0 := ⟨⟨_, _, _, _, _, Tryd.underlying67, rfl, rfl, ti3.h, by decide⟩⟩
instance fld67_1 : FldC Tryd.prog 67 1 1 := ⟨⟨_, _, _, _, _, Tryd.underlying67, rfl, rfl, ti3.h, by decide⟩⟩
instance pl67 : PlC Tryd.prog 67 ((#[(0, 1), (1, 1)] : Array (Nat × Nat))[·]?) := ⟨.inl ⟨_, _, Tryd.underlying67, fun w => by kernel_rfl, rfl⟩⟩
instance ti68 : TIC Tryd.prog 68 (.agg #[.int .i64 0, .int .i64 0]) 2 16 := ⟨by unfold TI; kernel_rfl⟩
instance agg68 : AggC Tryd.prog 68 := ⟨⟨_, Tryd.underlying68, rfl⟩⟩
instance fld68_0 : FldC Tryd.prog 68 0 0 := ⟨⟨_, _, _, _, _, Tryd.underlying68, rfl, rfl, ti3.h, by decide⟩⟩
instance fld68_1 : FldC Tryd.prog 68 1 1 := ⟨⟨_, _, _, _, _, Tryd.underlying68, rfl, rfl, ti3.h, by decide⟩⟩
instance pl68 : PlC Tryd.prog 68 ((#[(0, 1), (1, 1)] : Array (Nat × Nat))[·]?) := ⟨.inl ⟨_, _, Tryd.underlying68, fun w => by kernel_rfl, rfl⟩⟩
instance ti70 : TIC Tryd.prog 70 (.pointer none) 1 8 := ⟨by unfold TI; kernel_rfl⟩
instance leaf70 : LeafC Tryd.prog 70 := ⟨⟨_, Tryd.underlying70, rfl⟩⟩
instance ti71 : TIC Tryd.prog 71 (.agg #[.slice none 0 0, .int .i64 0, .int .i64 0]) 3 40 := ⟨by unfold TI; kernel_rfl⟩
instance agg71 : AggC Tryd.prog 71 := ⟨⟨_, Tryd.underlying71, rfl⟩⟩
instance fld71_0 : FldC Tryd.prog 71 0 0 := ⟨⟨_, _, _, _, _, Tryd.underlying71, rfl, rfl, ti23.h, by decide⟩⟩
instance fld71_1 : FldC Tryd.prog 71 1 1 := ⟨⟨_, _, _, _, _, Tryd.underlying71, rfl, rfl, ti3.h, by decide⟩⟩
instance fld71_2 : FldC Tryd.prog 71 2 2 := ⟨⟨_, _, _, _, _, Tryd.underlying71, rfl, rfl, ti3.h, by decide⟩⟩
instance pl71 : PlC Tryd.prog 71 ((#[(0, 1), (1, 1), (2, 1)] : Array (Nat × Nat))[·]?) := ⟨.inl ⟨_, _, Tryd.underlying71, fun w => by kernel_rfl, rfl⟩⟩
instance ti72 : TIC Tryd.prog 72 (.agg #[.slice none 0 0, .int .i64 0, .int .i64 0]) 3 40 := ⟨by unfold TI; kernel_rfl⟩
instance agg72 : AggC Tryd.prog 72 := ⟨⟨_, Tryd.underlying72, rfl⟩⟩
instance fld72_0 : FldC Tryd.prog 72 0 0 := ⟨⟨_, _, _, _, _, Tryd.underlying72, rfl, rfl, ti23.h, by decide⟩⟩
instance fld72_1 : FldC Tryd.prog 72 1 1 := ⟨⟨_, _, _, _, _, Tryd.underlying72, rfl, rfl, ti3.h, by decide⟩⟩
instance fld72_2 : FldC Tryd.prog 72 2 2 := ⟨⟨_, _, _, _, _, Tryd.underlying72, rfl, rfl, ti3.h, by decide⟩⟩
instance pl72 : PlC Tryd.prog 72 ((#[(0, 1), (1, 1), (2, 1)] : Array (Nat × Nat))[·]?) := ⟨.inl ⟨_, _, Tryd.underlying72, fun w => by kernel_rfl, rfl⟩⟩
instance ti73 : TIC Tryd.prog 73 (.agg #[.slice none 0 0, .int .i64 0, .int .i64 0]) 3 40 := ⟨by unfold TI; kernel_rfl⟩
instance agg73 : AggC Tryd.prog 73 := ⟨⟨_, Tryd.underlying73, rfl⟩⟩
instance fld73_0 : FldC Tryd.prog 73 0 0 := ⟨⟨_, _, _, _, _, Tryd.underlying73, rfl, rfl, ti72.h, by decide⟩⟩
instance pl73 : PlC Tryd.prog 73 ((#[(0, 3)] : Array (Nat × Nat))[·]?) := ⟨.inl ⟨_, _, Tryd.underlying73, fun w => by kernel_rfl, rfl⟩⟩
instance ti74 : TIC Tryd.prog 74 (.agg #[.slice none 0 0, .int .i64 0, .int .i64 0]) 3 40 := ⟨by unfold TI; kernel_rfl⟩
instance agg74 : AggC Tryd.prog 74 := ⟨⟨_, Tryd.underlying74, rfl⟩⟩
instance fld74_0 : FldC Tryd.prog 74 0 0 := ⟨⟨_, _, _, _, _, Tryd.underlying74, rfl, rfl, ti72.h, by decide⟩⟩
instance pl74 : PlC Tryd.prog 74 ((#[(0, 3)] : Array (Nat × Nat))[·]?) := ⟨.inl ⟨_, _, Tryd.underlying74, fun w => by kernel_rfl, rfl⟩⟩
instance ti75 : TIC Tryd.prog 75 (.nilFunc) 1 8 := ⟨by unfold TI; kernel_rfl⟩
instance leaf75 : LeafC Tryd.prog 75 := ⟨⟨_, Tryd.underlying75, rfl⟩⟩
instance ti76 : TIC Tryd.prog 76 (.nilFunc) 1 8 := ⟨by unfold TI; kernel_rfl⟩
instance leaf76 : LeafC Tryd.prog 76 := ⟨⟨_, Tryd.underlying76, rfl⟩⟩
instance ti77 : TIC Tryd.prog 77 (.nilFunc) 1 8 := ⟨by unfold TI; kernel_rfl⟩
instance leaf77 : LeafC Tryd.prog 77 := ⟨⟨_, Tryd.underlying77, rfl⟩⟩
instance ti79 : TIC Tryd.prog 79 (.nilFunc) 1 8 := ⟨by unfold TI; kernel_rfl⟩
instance leaf79 : LeafC Tryd.prog 79 := ⟨⟨_, Tryd.underlying79, rfl⟩⟩
instance ti80 : TIC Tryd.prog 80 (.slice none 0 0) 1 24 := ⟨by unfold TI; kernel_rfl⟩
instance leaf80 : LeafC Tryd.prog 80 := ⟨⟨_, Tryd.underlying80, rfl⟩⟩
instance sl80 : SlC Tryd.prog 80 107 := ⟨Tryd.underlying80⟩
instance ti81 : TIC Tryd.prog 81 (.agg #[.string ⟨#[]⟩, .slice none 0 0]) 2 40 := ⟨by unfold TI; kernel_rfl⟩
instance agg81 : AggC Tryd.prog 81 := ⟨⟨_, Tryd.underlying81, rfl⟩⟩
instance fld81_0 : FldC Tryd.prog 81 0 0 := ⟨⟨_, _, _, _, _, Tryd.underlying81, rfl, rfl, ti9.h, by decide⟩⟩
instance fld81_1 : FldC Tryd.prog 81 1 1 := ⟨⟨_, _, _, _, _, Tryd.underlying81, rfl, rfl, ti80.h, by decide⟩⟩
instance pl81 : PlC Tryd.prog 81 ((#[(0, 1), (1, 1)] : Array (Nat × Nat))[·]?) := ⟨.inl ⟨_, _, Tryd.underlying81, fun w => by kernel_rfl, rfl⟩⟩
instance ti82 : TIC Tryd.prog 82 (.agg #[.string ⟨#[]⟩, .slice none 0 0]) 2 40 := ⟨by unfold TI; kernel_rfl⟩
instance agg82 : AggC Tryd.prog 82 := ⟨⟨_, Tryd.underlying82, rfl⟩⟩
instance fld82_0 : FldC Tryd.prog 82 0 0 := ⟨⟨_, _, _, _, _, Tryd.underlying82, rfl, rfl, ti9.h, by decide⟩⟩
instance fld82_1 : FldC Tryd.prog 82 1 1 := ⟨⟨_, _, _, _, _, Tryd.underlying82, rfl, rfl, ti80.h, by decide⟩⟩
instance pl82 : PlC Tryd.prog 82 ((#[(0, 1), (1, 1)] : Array (Nat × Nat))[·]?) := ⟨.inl ⟨_, _, Tryd.underlying82, fun w => by kernel_rfl, rfl⟩⟩
instance ti83 : TIC Tryd.prog 83 (.nilFunc) 1 8 := ⟨by unfold TI; kernel_rfl⟩
instance leaf83 : LeafC Tryd.prog 83 := ⟨⟨_, Tryd.underlying83, rfl⟩⟩
instance ti84 : TIC Tryd.prog 84 (.nilFunc) 1 8 := ⟨by unfold TI; kernel_rfl⟩
instance leaf84 : LeafC Tryd.prog 84 := ⟨⟨_, Tryd.underlying84, rfl⟩⟩
instance ti86 : TIC Tryd.prog 86 (.nilFunc) 1 8 := ⟨by unfold TI; kernel_rfl⟩
instance leaf86 : LeafC Tryd.prog 86 := ⟨⟨_, Tryd.underlying86, rfl⟩⟩
instance ti87 : TIC Tryd.prog 87 (.nilFunc) 1 8 := ⟨by unfold TI; kernel_rfl⟩
instance leaf87 : LeafC Tryd.prog 87 := ⟨⟨_, Tryd.underlying87, rfl⟩⟩
instance ti88 : TIC Tryd.prog 88 (.nilFunc) 1 8 := ⟨by unfold TI; kernel_rfl⟩
instance leaf88 : LeafC Tryd.prog 88 := ⟨⟨_, Tryd.underlying88, rfl⟩⟩
instance ti89 : TIC Tryd.prog 89 (.nilFunc) 1 8 := ⟨by unfold TI; kernel_rfl⟩
instance leaf89 : LeafC Tryd.prog 89 := ⟨⟨_, Tryd.underlying89, rfl⟩⟩
instance ti91 : TIC Tryd.prog 91 (.nilFunc) 1 8 := ⟨by unfold TI; kernel_rfl⟩
instance leaf91 : LeafC Tryd.prog 91 := ⟨⟨_, Tryd.underlying91, rfl⟩⟩
instance ti92 : TIC Tryd.prog 92 (.nilFunc) 1 8 := ⟨by unfold TI; kernel_rfl⟩
instance leaf92 : LeafC Tryd.prog 92 := ⟨⟨_, Tryd.underlying92, rfl⟩⟩
instance ti93 : TIC Tryd.prog 93 (.nilFunc) 1 8 := ⟨by unfold TI; kernel_rfl⟩
instance leaf93 : LeafC Tryd.prog 93 := ⟨⟨_, Tryd.underlying93, rfl⟩⟩
instance ti94 : TIC Tryd.prog 94 (.pointer none) 1 8 := ⟨by unfold TI; kernel_rfl⟩
instance leaf94 : LeafC Tryd.prog 94 := ⟨⟨_, Tryd.underlying94, rfl⟩⟩
instance ti95 : TIC Tryd.prog 95 (.agg #[.int .i64 0, .int .i64 0]) 2 16 := ⟨by unfold TI; kernel_rfl⟩
instance agg95 : AggC Tryd.prog 95 := ⟨⟨_, Tryd.underlying95, rfl⟩⟩
instance fld95_0 : FldC Tryd.prog 95 0 0 := ⟨⟨_, _, _, _, _, Tryd.underlying95, rfl, rfl, ti3.h, by decide⟩⟩
instance fld95_1 : FldC Tryd.prog 95 1 1 := ⟨⟨_, _, _, _, _, Tryd.underlying95, rfl, rfl, ti3.h, by decide⟩⟩
instance pl95 : PlC Tryd.prog 95 ((#[(0, 1), (1, 1)] : Array (Nat × Nat))[·]?) := ⟨.inl ⟨_, _, Tryd.underlying95, fun w => by kernel_rfl, rfl⟩⟩
instance ti96 : TIC Tryd.prog 96 (.agg #[.int .i64 0, .int .i64 0]) 2 16 := ⟨by unfold TI; kernel_rfl⟩
instance agg96 : AggC Tryd.prog 96 := ⟨⟨_, Tryd.underlying96, rfl⟩⟩
instance fld96_0 : FldC Tryd.prog 96 0 0 := ⟨⟨_, _, _, _, _, Tryd.underlying96, rfl, rfl, ti3.h, by decide⟩⟩
instance fld96_1 : FldC Tryd.prog 96 1 1 := ⟨⟨_, _, _, _, _, Tryd.underlying96, rfl, rfl, ti3.h, by decide⟩⟩
instance pl96 : PlC Tryd.prog 96 ((#[(0, 1), (1, 1)] : Array (Nat × Nat))[·]?) := ⟨.inl ⟨_, _, Tryd.underlying96, fun w => by kernel_rfl, rfl⟩⟩
instance ti97 : TIC Tryd.prog 97 (.nilFunc) 1 8 := ⟨by unfold TI; kernel_rfl⟩
instance leaf97 : LeafC Tryd.prog 97 := ⟨⟨_, Tryd.underlying97, rfl⟩⟩
instance ti98 : TIC Tryd.prog 98 (.nilFunc) 1 8 := ⟨by unfold TI; kernel_rfl⟩
instance leaf98 : LeafC Tryd.prog 98 := ⟨⟨_, Tryd.underlying98, rfl⟩⟩
instance ti99 : TIC Tryd.prog 99 (.nilFunc) 1 8 := ⟨by unfold TI; kernel_rfl⟩
instance leaf99 : LeafC Tryd.prog 99 := ⟨⟨_, Tryd.underlying99, rfl⟩⟩
instance ti100 : TIC Tryd.prog 100 (.nilFunc) 1 8 := ⟨by unfold TI; kernel_rfl⟩
instance leaf100 : LeafC Tryd.prog 100 := ⟨⟨_, Tryd.underlying100, rfl⟩⟩
instance ti101 : TIC Tryd.prog 101 (.nilFunc) 1 8 := ⟨by unfold TI; kernel_rfl⟩
instance leaf101 : LeafC Tryd.prog 101 := ⟨⟨_, Tryd.underlying101, rfl⟩⟩
instance ti103 : TIC Tryd.prog 103 (.nilFunc) 1 8 := ⟨by unfold TI; kernel_rfl⟩
instance leaf103 : LeafC Tryd.prog 103 := ⟨⟨_, Tryd.underlying103, rfl⟩⟩
instance ti104 : TIC Tryd.prog 104 (.int .i64 0) 1 8 := ⟨by unfold TI; kernel_rfl⟩
instance leaf104 : LeafC Tryd.prog 104 := ⟨⟨_, Tryd.underlying104, rfl⟩⟩
instance ti105 : TIC Tryd.prog 105 (.slice none 0 0) 1 24 := ⟨by unfold TI; kernel_rfl⟩
instance leaf105 : LeafC Tryd.prog 105 := ⟨⟨_, Tryd.underlying105, rfl⟩⟩
instance sl105 : SlC Tryd.prog 105 80 := ⟨Tryd.underlying105⟩
instance ti106 : TIC Tryd.prog 106 (.agg #[.int .i64 0, .string ⟨#[]⟩, .string ⟨#[]⟩, .int .i64 0, .slice none 0 0]) 5 72 := ⟨by unfold TI; kernel_rfl⟩
instance agg106 : AggC Tryd.prog 106 := ⟨⟨_, Tryd.underlying106, rfl⟩⟩
instance fld106_0 : FldC Tryd.prog 106 0 0 := ⟨⟨_, _, _, _, _, Tryd.underlying106, rfl, rfl, ti104.h, by decide⟩⟩
instance fld106_1 : FldC Tryd.prog 106 1 1 := ⟨⟨_, _, _, _, _, Tryd.underlying106, rfl, rfl, ti9.h, by decide⟩⟩
instance fld106_2 : FldC Tryd.prog 106 2 2 := ⟨⟨_, _, _, _, _, Tryd.underlying106, rfl, rfl, ti9.h, by decide⟩⟩
instance fld106_3 : FldC Tryd.prog 106 3 3 := ⟨⟨_, _, _, _, _, Tryd.underlying106, rfl, rfl, ti2.h, by decide⟩⟩
instance fld106_4 : FldC Tryd.prog 106 4 4 := ⟨⟨_, _, _, _, _, Tryd.underlying106, rfl, rfl, ti105.h, by decide⟩⟩
instance pl106 : PlC Tryd.prog 106 ((#[(0, 1), (1, 1), (2, 1), (3, 1), (4, 1)] : Array (Nat × Nat))[·]?) := ⟨.inl ⟨_, _, Tryd.underlying106, fun w => by kernel_rfl, rfl⟩⟩
instance ti107 : TIC Tryd.prog 107 (.agg #[.int .i64 0, .string ⟨#[]⟩, .string ⟨#[]⟩, .int .i64 0, .slice none 0 0]) 5 72 := ⟨by unfold TI; kernel_rfl⟩
instance agg107 : AggC Tryd.prog 107 := ⟨⟨_, Tryd.underlying107, rfl⟩⟩
instance fld107_0 : FldC Tryd.prog 107 0 0 := ⟨⟨_, _, _, _, _, Tryd.underlying107, rfl, rfl, ti104.h, by decide⟩⟩
instance fld107_1 : FldC Tryd.prog 107 1 1 := ⟨⟨_, _, _, _, _, Tryd.underlying107, rfl, rfl, ti9.h, by decide⟩⟩
instance fld107_2 : FldC Tryd.prog 107 2 2 := ⟨⟨_, _, _, _, _, Tryd.underlying107, rfl, rfl, ti9.h, by decide⟩⟩
instance fld107_3 : FldC Tryd.prog 107 3 3 := ⟨⟨_, _, _, _, _, Tryd.underlying107, rfl, rfl, ti2.h, by decide⟩⟩
instance fld107_4 : FldC Tryd.prog 107 4 4 := ⟨⟨_, _, _, _, _, Tryd.underlying107, rfl, rfl, ti105.h, by decide⟩⟩
instance pl107 : PlC Tryd.prog 107 ((#[(0, 1), (1, 1), (2, 1), (3, 1), (4, 1)] : Array (Nat × Nat))[·]?) := ⟨.inl ⟨_, _, Tryd.underlying107, fun w => by kernel_rfl, rfl⟩⟩
instance ti108 : TIC Tryd.prog 108 (.nilFunc) 1 8 := ⟨by unfold TI; kernel_rfl⟩
instance leaf108 : LeafC Tryd.prog 108 := ⟨⟨_, Tryd.underlying108, rfl⟩⟩
instance ti110 : TIC Tryd.prog 110 (.nilFunc) 1 8 := ⟨by unfold TI; kernel_rfl⟩
instance leaf110 : LeafC Tryd.prog 110 := ⟨⟨_, Tryd.underlying110, rfl⟩⟩
instance ti111 : TIC Tryd.prog 111 (.nilFunc) 1 8 := ⟨by unfold TI; kernel_rfl⟩
instance leaf111 : LeafC Tryd.prog 111 := ⟨⟨_, Tryd.underlying111, rfl⟩⟩
instance ti112 : TIC Tryd.prog 112 (.pointer none) 1 8 := ⟨by unfold TI; kernel_rfl⟩
instance leaf112 : LeafC Tryd.prog 112 := ⟨⟨_, Tryd.underlying112, rfl⟩⟩
instance ti113 : TIC Tryd.prog 113 (.nilFunc) 1 8 := ⟨by unfold TI; kernel_rfl⟩
instance leaf113 : LeafC Tryd.prog 113 := ⟨⟨_, Tryd.underlying113, rfl⟩⟩
instance ti114 : TIC Tryd.prog 114 (.nilFunc) 1 8 := ⟨by unfold TI; kernel_rfl⟩
instance leaf114 : LeafC Tryd.prog 114 := ⟨⟨_, Tryd.underlying114, rfl⟩⟩
instance ti115 : TIC Tryd.prog 115 (.int .u64 0) 1 8 := ⟨by unfold TI; kernel_rfl⟩
instance leaf115 : LeafC Tryd.prog 115 := ⟨⟨_, Tryd.underlying115, rfl⟩⟩
instance ti116 : TIC Tryd.prog 116 (.nilFunc) 1 8 := ⟨by unfold TI; kernel_rfl⟩
instance leaf116 : LeafC Tryd.prog 116 := ⟨⟨_, Tryd.underlying116, rfl⟩⟩
instance ti117 : TIC Tryd.prog 117 (.int .u64 0) 1 8 := ⟨by unfold TI; kernel_rfl⟩
instance leaf117 : LeafC Tryd.prog 117 := ⟨⟨_, Tryd.underlying117, rfl⟩⟩
instance ti118 : TIC Tryd.prog 118 (.int .i64 0) 1 8 := ⟨by unfold TI; kernel_rfl⟩
instance leaf118 : LeafC Tryd.prog 118 := ⟨⟨_, Tryd.underlying118, rfl⟩⟩
instance ti120 : TIC Tryd.prog 120 (.nilFunc) 1 8 := ⟨by unfold TI; kernel_rfl⟩
instance leaf120 : LeafC Tryd.prog 120 := ⟨⟨_, Tryd.underlying120, rfl⟩⟩
instance ti121 : TIC Tryd.prog 121 (.pointer none) 1 8 := ⟨by unfold TI; kernel_rfl⟩
instance leaf121 : LeafC Tryd.prog 121 := ⟨⟨_, Tryd.underlying121, rfl⟩⟩
instance ti122 : TIC Tryd.prog 122 (.nilFunc) 1 8 := ⟨by unfold TI; kernel_rfl⟩
instance leaf122 : LeafC Tryd.prog 122 := ⟨⟨_, Tryd.underlying122, rfl⟩⟩
instance ti123 : TIC Tryd.prog 123 (.nilFunc) 1 8 := ⟨by unfold TI; kernel_rfl⟩
instance leaf123 : LeafC Tryd.prog 123 := ⟨⟨_, Tryd.underlying123, rfl⟩⟩
instance ti124 : TIC Tryd.prog 124 (.nilFunc) 1 8 := ⟨by unfold TI; kernel_rfl⟩
instance leaf124 : LeafC Tryd.prog 124 := ⟨⟨_, Tryd.underlying124, rfl⟩⟩
instance ti125 : TIC Tryd.prog 125 (.agg #[.int .u8 0, .int .u8 0, .int .u8 0, .int .u8 0, .int .u8 0, .int .u8 0, .int .u8 0, .int .u8 0, .int .u8 0, .int .u8 0, .int .u8 0, .int .u8 0, .int .u8 0, .int .u8 0, .int .u8 0, .int .u8 0, .int .u8 0, .int .u8 0, .int .u8 0, .int .u8 0, .int .u8 0, .int .u8 0, .int .u8 0, .int .u8 0]) 24 24 := ⟨by unfold TI; kernel_rfl⟩
instance agg125 : AggC Tryd.prog 125 := ⟨⟨_, Tryd.underlying125, rfl⟩⟩
instance pl125 : PlC Tryd.prog 125 (fun i => some (i * 1, 1)) := ⟨.inr ⟨_, _, _, _, _, Tryd.underlying125, ti5.h, rfl⟩⟩
instance ti126 : TIC Tryd.prog 126 (.nilFunc) 1 8 := ⟨by unfold TI; kernel_rfl⟩
instance leaf126 : LeafC Tryd.prog 126 := ⟨⟨_, Tryd.underlying126, rfl⟩⟩
instance ti127 : TIC Tryd.prog 127 (.nilFunc) 1 8 := ⟨by unfold TI; kernel_rfl⟩
instance leaf127 : LeafC Tryd.prog 127 := ⟨⟨_, Tryd.underlying127, rfl⟩⟩
instance ti129 : TIC Tryd.prog 129 (.nilFunc) 1 8 := ⟨by unfold TI; kernel_rfl⟩
instance leaf129 : LeafC Tryd.prog 129 := ⟨⟨_, Tryd.underlying129, rfl⟩⟩
instance ti130 : TIC Tryd.prog 130 (.pointer none) 1 8 := ⟨by unfold TI; kernel_rfl⟩
instance leaf130 : LeafC Tryd.prog 130 := ⟨⟨_, Tryd.underlying130, rfl⟩⟩
instance ti131 : TIC Tryd.prog 131 (.nilFunc) 1 8 := ⟨by unfold TI; kernel_rfl⟩
instance leaf131 : LeafC Tryd.prog 131 := ⟨⟨_, Tryd.underlying131, rfl⟩⟩
instance ti132 : TIC Tryd.prog 132 (.slice none 0 0) 1 24 := ⟨by unfold TI; kernel_rfl⟩
instance leaf132 : LeafC Tryd.prog 132 := ⟨⟨_, Tryd.underlying132, rfl⟩⟩
instance sl132 : SlC Tryd.prog 132 27 := ⟨Tryd.underlying132⟩
instance ti133 : TIC Tryd.prog 133 (.nilFunc) 1 8 := ⟨by unfold TI; kernel_rfl⟩
instance leaf133 : LeafC Tryd.prog 133 := ⟨⟨_, Tryd.underlying133, rfl⟩⟩
instance ti134 : TIC Tryd.prog 134 (.int .u32 0) 1 4 := ⟨by unfold TI; kernel_rfl⟩
instance leaf134 : LeafC Tryd.prog 134 := ⟨⟨_, Tryd.underlying134, rfl⟩⟩
instance ti136 : TIC Tryd.prog 136 (.nilFunc) 1 8 := ⟨by unfold TI; kernel_rfl⟩
instance leaf136 : LeafC Tryd.prog 136 := ⟨⟨_, Tryd.underlying136, rfl⟩⟩
instance ti137 : TIC Tryd.prog 137 (.nilFunc) 1 8 := ⟨by unfold TI; kernel_rfl⟩
instance leaf137 : LeafC Tryd.prog 137 := ⟨⟨_, Tryd.underlying137, rfl⟩⟩
instance ti138 : TIC Tryd.prog 138 (.nilFunc) 1 8 := ⟨by unfold TI; kernel_rfl⟩
instance leaf138 : LeafC Tryd.prog 138 := ⟨⟨_, Tryd.underlying138, rfl⟩⟩
instance ti139 : TIC Tryd.prog 139 (.agg #[.string ⟨#[]⟩, .string ⟨#[]⟩, .nilIface]) 3 48 := ⟨by unfold TI; kernel_rfl⟩
instance agg139 : AggC Tryd.prog 139 := ⟨⟨_, Tryd.underlying139, rfl⟩⟩
instance fld139_0 : FldC Tryd.prog 139 0 0 := ⟨⟨_, _, _, _, _, Tryd.underlying139, rfl, rfl, ti9.h, by decide⟩⟩
instance fld139_1 : FldC Tryd.prog 139 1 1 := ⟨⟨_, _, _, _, _, Tryd.underlying139, rfl, rfl, ti9.h, by decide⟩⟩
instance fld139_2 : FldC Tryd.prog 139 2 2 := ⟨⟨_, _, _, _, _, Tryd.underlying139, rfl, rfl, ti60.h, by decide⟩⟩
instance pl139 : PlC Tryd.prog 139 ((#[(0, 1), (1, 1), (2, 1)] : Array (Nat × Nat))[·]?) := ⟨.inl ⟨_, _, Tryd.underlying139, fun w => by kernel_rfl, rfl⟩⟩
instance ti140 : TIC Tryd.prog 140 (.agg #[.string ⟨#[]⟩, .string ⟨#[]⟩, .nilIface]) 3 48 := ⟨by unfold TI; kernel_rfl⟩
instance agg140 : AggC Tryd.prog 140 := ⟨⟨_, Tryd.underlying140, rfl⟩⟩
instance fld140_0 : FldC Tryd.prog 140 0 0 := ⟨⟨_, _, _, _, _, Tryd.underlying140, rfl, rfl, ti9.h, by decide⟩⟩
instance fld140_1 : FldC Tryd.prog 140 1 1 := ⟨⟨_, _, _, _, _, Tryd.underlying140, rfl, rfl, ti9.h, by decide⟩⟩
instance fld140_2 : FldC Tryd.prog 140 2 2 := ⟨⟨_, _, _, _, _, Tryd.underlying140, rfl, rfl, ti60.h, by decide⟩⟩
instance pl140 : PlC Tryd.prog 140 ((#[(0, 1), (1, 1), (2, 1)] : Array (Nat × Nat))[·]?) := ⟨.inl ⟨_, _, Tryd.underlying140, fun w => by kernel_rfl, rfl⟩⟩
instance ti141 : TIC Tryd.prog 141 (.nilFunc) 1 8 := ⟨by unfold TI; kernel_rfl⟩
instance leaf141 : LeafC Tryd.prog 141 := ⟨⟨_, Tryd.underlying141, rfl⟩⟩
instance ti142 : TIC Tryd.prog 142 (.nilFunc) 1 8 := ⟨by unfold TI; kernel_rfl⟩
instance leaf142 : LeafC Tryd.prog 142 := ⟨⟨_, Tryd.underlying142, rfl⟩⟩
instance ti143 : TIC Tryd.prog 143 (.agg #[.int .u64 0, .int .u64 0, .int .u64 0, .int .u64 0, .int .u64 0, .int .u64 0, .int .u64 0, .int .u64 0, .int .u64 0, .int .u64 0, .int .u64 0, .int .u64 0, .int .u64 0, .int .u64 0, .int .u64 0, .int .u64 0, .int .u64 0, .int .u64 0, .int .u64 0, .int .u64 0]) 20 160 := ⟨by unfold TI; kernel_rfl⟩
instance agg143 : AggC Tryd.prog 143 := ⟨⟨_, Tryd.underlying143, rfl⟩⟩
instance pl143 : PlC Tryd.prog 143 (fun i => some (i * 1, 1)) := ⟨.inr ⟨_, _, _, _, _, Tryd.underlying143, ti115.h, rfl⟩⟩
instance ti145 : TIC Tryd.prog 145 (.nilFunc) 1 8 := ⟨by unfold TI; kernel_rfl⟩
instance leaf145 : LeafC Tryd.prog 145 := ⟨⟨_, Tryd.underlying145, rfl⟩⟩
instance ti146 : TIC Tryd.prog 146 (.nilFunc) 1 8 := ⟨by unfold TI; kernel_rfl⟩
instance leaf146 : LeafC Tryd.prog 146 := ⟨⟨_, Tryd.underlying146, rfl⟩⟩
instance ti147 : TIC Tryd.prog 147 (.nilFunc) 1 8 := ⟨by unfold TI; kernel_rfl⟩
instance leaf147 : LeafC Tryd.prog 147 := ⟨⟨_, Tryd.underlying147, rfl⟩⟩
instance ti148 : TIC Tryd.prog 148 (.pointer none) 1 8 := ⟨by unfold TI; kernel_rfl⟩
instance leaf148 : LeafC Tryd.prog 148 := ⟨⟨_, Tryd.underlying148, rfl⟩⟩
instance ti149 : TIC Tryd.prog 149 (.agg #[.string ⟨#[]⟩]) 1 16 := ⟨by unfold TI; kernel_rfl⟩
instance agg149 : AggC Tryd.prog 149 := ⟨⟨_, Tryd.underlying149, rfl⟩⟩
instance fld149_0 : FldC Tryd.prog 149 0 0 := ⟨⟨_, _, _, _, _, Tryd.underlying149, rfl, rfl, ti9.h, by decide⟩⟩
instance pl149 : PlC Tryd.prog 149 ((#[(0, 1)] : Array (Nat × Nat))[·]?) := ⟨.inl ⟨_, _, Tryd.underlying149, fun w => by kernel_rfl, rfl⟩⟩
instance ti150 : TIC Tryd.prog 150 (.agg #[.string ⟨#[]⟩]) 1 16 := ⟨by unfold TI; kernel_rfl⟩
instance agg150 : AggC Tryd.prog 150 := ⟨⟨_, Tryd.underlying150, rfl⟩⟩
instance fld150_0 : FldC Tryd.prog 150 0 0 := ⟨⟨_, _, _, _, _, Tryd.underlying150, rfl, rfl, ti9.h, by decide⟩⟩
instance pl150 : PlC Tryd.prog 150 ((#[(0, 1)] : Array (Nat × Nat))[·]?) := ⟨.inl ⟨_, _, Tryd.underlying150, fun w => by kernel_rfl, rfl⟩⟩
instance ti151 : TIC Tryd.prog 151 (.nilFunc) 1 8 := ⟨by unfold TI; kernel_rfl⟩
instance leaf151 : LeafC Tryd.prog 151 := ⟨⟨_, Tryd.underlying151, rfl⟩⟩
instance ti152 : TIC Tryd.prog 152 (.agg #[.int .u8 0, .int .u8 0, .int .u8 0, .int .u8 0, .int .u8 0, .int .u8 0, .int .u8 0, .int .u8 0, .int .u8 0, .int .u8 0, .int .u8 0, .int .u8 0, .int .u8 0, .int .u8 0, .int .u8 0, .int .u8 0, .int .u8 0, .int .u8 0, .int .u8 0, .int .u8 0, .int .u8 0, .int .u8 0, .int .u8 0, .int .u8 0, .int .u8 0, .int .u8 0, .int .u8 0, .int .u8 0, .int .u8 0, .int .u8 0, .int .u8 0, .int .u8 0]) 32 32 := ⟨by unfold TI; kernel_rfl⟩
instance agg152 : AggC Tryd.prog 152 := ⟨⟨_, Tryd.underlying152, rfl⟩⟩
instance pl152 : PlC Tryd.prog 152 (fun i => some (i * 1, 1)) := ⟨.inr ⟨_, _, _, _, _, Tryd.underlying152, ti5.h, rfl⟩⟩
instance ti154 : TIC Tryd.prog 154 (.agg #[.pointer none, .pointer none, .pointer none, .string ⟨#[]⟩]) 4 40 := ⟨by unfold TI; kernel_rfl⟩
instance agg154 : AggC Tryd.prog 154 := ⟨⟨_, Tryd.underlying154, rfl⟩⟩
instance fld154_0 : FldC Tryd.prog 154 0 0 := ⟨⟨_, _, _, _, _, Tryd.underlying154, rfl, rfl, ti17.h, by decide⟩⟩
instance fld154_1 : FldC Tryd.prog 154 1 1 := ⟨⟨_, _, _, _, _, Tryd.underlying154, rfl, rfl, ti17.h, by decide⟩⟩
instance fld154_2 : FldC Tryd.prog 154 2 2 := ⟨⟨_, _, _, _, _, Tryd.underlying154, rfl, rfl, ti17.h, by decide⟩⟩
instance fld154_3 : FldC Tryd.prog 154 3 3 := ⟨⟨_, _, _, _, _, Tryd.underlying154, rfl, rfl, ti9.h, by decide⟩⟩
instance pl154 : PlC Tryd.prog 154 ((#[(0, 1), (1, 1), (2, 1), (3, 1)] : Array (Nat × Nat))[·]?) := ⟨.inl ⟨_, _, Tryd.underlying154, fun w => by kernel_rfl, rfl⟩⟩
instance ti155 : TIC Tryd.prog 155 (.agg #[.pointer none, .pointer none, .pointer none, .string ⟨#[]⟩]) 4 40 := ⟨by unfold TI; kernel_rfl⟩
instance agg155 : AggC Tryd.prog 155 := ⟨⟨_, Tryd.underlying155, rfl⟩⟩
instance fld155_0 : FldC Tryd.prog 155 0 0 := ⟨⟨_, _, _, _, _, Tryd.underlying155, rfl, rfl, ti17.h, by decide⟩⟩
instance fld155_1 : FldC Tryd.prog 155 1 1 := ⟨⟨_, _, _, _, _, Tryd.underlying155, rfl, rfl, ti17.h, by decide⟩⟩
instance fld155_2 : FldC Tryd.prog 155 2 2 := ⟨⟨_, _, _, _, _, Tryd.underlying155, rfl, rfl, ti17.h, by decide⟩⟩
instance fld155_3 : FldC Tryd.prog 155 3 3 := ⟨⟨_, _, _, _, _, Tryd.underlying155, rfl, rfl, ti9.h, by decide⟩⟩
instance pl155 : PlC Tryd.prog 155 ((#[(0, 1), (1, 1), (2, 1), (3, 1)] : Array (Nat × Nat))[·]?) := ⟨.inl ⟨_, _, Tryd.underlying155, fun w => by kernel_rfl, rfl⟩⟩
instance ti156 : TIC Tryd.prog 156 (.agg #[]) 0 0 := ⟨by unfold TI; kernel_rfl⟩
instance agg156 : AggC Tryd.prog 156 := ⟨⟨_, Tryd.underlying156, rfl⟩⟩
instance pl156 : PlC Tryd.prog 156 (fun i => some (i * 1, 1)) := ⟨.inr ⟨_, _, _, _, _, Tryd.underlying156, ti16.h, rfl⟩⟩
instance ti157 : TIC Tryd.prog 157 (.agg #[]) 0 0 := ⟨by unfold TI; kernel_rfl⟩
instance agg157 : AggC Tryd.prog 157 := ⟨⟨_, Tryd.underlying157, rfl⟩⟩
instance pl157 : PlC Tryd.prog 157 ((#[(0, 0)] : Array (Nat × Nat))[·]?) := ⟨.inl ⟨_, _, Tryd.underlying157, fun w => by kernel_rfl, rfl⟩⟩
instance ti158 : TIC Tryd.prog 158 (.agg #[]) 0 0 := ⟨by unfold TI; kernel_rfl⟩
instance agg158 : AggC Tryd.prog 158 := ⟨⟨_, Tryd.underlying158, rfl⟩⟩
instance pl158 : PlC Tryd.prog 158 ((#[(0, 0)] : Array (Nat × Nat))[·]?) := ⟨.inl ⟨_, _, Tryd.underlying158, fun w => by kernel_rfl, rfl⟩⟩
instance ti159 : TIC Tryd.prog 159 (.int .u8 0) 1 1 := ⟨by unfold TI; kernel_rfl⟩
instance leaf159 : LeafC Tryd.prog 159 := ⟨⟨_, Tryd.underlying159, rfl⟩⟩
instance ti160 : TIC Tryd.prog 160 (.int .u8 0) 1 1 := ⟨by unfold TI; kernel_rfl⟩
instance leaf160 : LeafC Tryd.prog 160 := ⟨⟨_, Tryd.underlying160, rfl⟩⟩
instance ti161 : TIC Tryd.prog 161 (.nilFunc) 1 8 := ⟨by unfold TI; kernel_rfl⟩
instance leaf161 : LeafC Tryd.prog 161 := ⟨⟨_, Tryd.underlying161, rfl⟩⟩
instance ti162 : TIC Tryd.prog 162 (.int .i32 0) 1 4 := ⟨by unfold TI; kernel_rfl⟩
instance leaf162 : LeafC Tryd.prog 162 := ⟨⟨_, Tryd.underlying162, rfl⟩⟩
instance ti163 : TIC Tryd.prog 163 (.int .i32 0) 1 4 := ⟨by unfold TI; kernel_rfl⟩
instance leaf163 : LeafC Tryd.prog 163 := ⟨⟨_, Tryd.underlying163, rfl⟩⟩
instance ti164 : TIC Tryd.prog 164 (.agg #[.int .u64 0, .int .u64 0, .int .u32 0, .int .u8 0, .int .u8 0, .int .u8 0, .int .u8 0, .nilFunc, .pointer none, .int .i32 0, .int .i32 0]) 11 48 := ⟨by unfold TI; kernel_rfl⟩
instance agg164 : AggC Tryd.prog 164 := ⟨⟨_, Tryd.underlying164, rfl⟩⟩
instance fld164_0 : FldC Tryd.prog 164 0 0 := ⟨⟨_, _, _, _, _, Tryd.underlying164, rfl, rfl, ti12.h, by decide⟩⟩
instance fld164_1 : FldC Tryd.prog 164 1 1 := ⟨⟨_, _, _, _, _, Tryd.underlying164, rfl, rfl, ti12.h, by decide⟩⟩
instance fld164_2 : FldC Tryd.prog 164 2 2 := ⟨⟨_, _, _, _, _, Tryd.underlying164, rfl, rfl, ti134.h, by decide⟩⟩
instance fld164_3 : FldC Tryd.prog 164 3 3 := ⟨⟨_, _, _, _, _, Tryd.underlying164, rfl, rfl, ti159.h, by decide⟩⟩
instance fld164_4 : FldC Tryd.prog 164 4 4 := ⟨⟨_, _, _, _, _, Tryd.underlying164, rfl, rfl, ti5.h, by decide⟩⟩
instance fld164_5 : FldC Tryd.prog 164 5 5 := ⟨⟨_, _, _, _, _, Tryd.underlying164, rfl, rfl, ti5.h, by decide⟩⟩
instance fld164_6 : FldC Tryd.prog 164 6 6 := ⟨⟨_, _, _, _, _, Tryd.underlying164, rfl, rfl, ti160.h, by decide⟩⟩
instance fld164_7 : FldC Tryd.prog 164 7 7 := ⟨⟨_, _, _, _, _, Tryd.underlying164, rfl, rfl, ti161.h, by decide⟩⟩
instance fld164_8 : FldC Tryd.prog 164 8 8 := ⟨⟨_, _, _, _, _, Tryd.underlying164, rfl, rfl, ti94.h, by decide⟩⟩
instance fld164_9 : FldC Tryd.prog 164 9 9 := ⟨⟨_, _, _, _, _, Tryd.underlying164, rfl, rfl, ti162.h, by decide⟩⟩
instance fld164_10 : FldC Tryd.prog 164 10 10 := ⟨⟨_, _, _, _, _, Tryd.underlying164, rfl, rfl, ti163.h, by decide⟩⟩
instance pl164 : PlC Tryd.prog 164 ((#[(0, 1), (1, 1), (2, 1), (3, 1), (4, 1), (5, 1), (6, 1), (7, 1), (8, 1), (9, 1), (10, 1)] : Array (Nat × Nat))[·]?) := ⟨.inl ⟨_, _, Tryd.underlying164, fun w => by kernel_rfl, rfl⟩⟩
instance ti165 : TIC Tryd.prog 165 (.agg #[.int .u64 0, .int .u64 0, .int .u32 0, .int .u8 0, .int .u8 0, .int .u8 0, .int .u8 0, .nilFunc, .pointer none, .int .i32 0, .int .i32 0]) 11 48 := ⟨by unfold TI; kernel_rfl⟩
instance agg165 : AggC Tryd.prog 165 := ⟨⟨_, Tryd.underlying165, rfl⟩⟩
instance fld165_0 : FldC Tryd.prog 165 0 0 := ⟨⟨_, _, _, _, _, Tryd.underlying165, rfl, rfl, ti12.h, by decide⟩⟩
instance fld165_1 : FldC Tryd.prog 165 1 1 := ⟨⟨_, _, _, _, _, Tryd.underlying165, rfl, rfl, ti12.h, by decide⟩⟩
instance fld165_2 : FldC Tryd.prog 165 2 2 := ⟨⟨_, _, _, _, _, Tryd.underlying165, rfl, rfl, ti134.h, by decide⟩⟩
instance fld165_3 : FldC Tryd.prog 165 3 3 := ⟨⟨_, _, _, _, _, Tryd.underlying165, rfl, rfl, ti159.h, by decide⟩⟩
instance fld165_4 : FldC Tryd.prog 165 4 4 := ⟨⟨_, _, _, _, _, Tryd.underlying165, rfl, rfl, ti5.h, by decide⟩⟩
instance fld165_5 : FldC Tryd.prog 165 5 5 := ⟨⟨_, _, _, _, _, Tryd.underlying165, rfl, rfl, ti5.h, by decide⟩⟩
instance fld165_6 : FldC Tryd.prog 165 6 6 := ⟨⟨_, _, _, _, _, Tryd.underlying165, rfl, rfl, ti160.h, by decide⟩⟩
instance fld165_7 : FldC Tryd.prog 165 7 7 := ⟨⟨_, _, _, _, _, Tryd.underlying165, rfl, rfl, ti161.h, by decide⟩⟩
instance fld165_8 : FldC Tryd.prog 165 8 8 := ⟨⟨_, _, _, _, _, Tryd.underlying165, rfl, rfl, ti94.h, by decide⟩⟩
instance fld165_9 : FldC Tryd.prog 165 9 9 := ⟨⟨_, _, _, _, _, Tryd.underlying165, rfl, rfl, ti162.h, by decide⟩⟩
instance fld165_10 : FldC Tryd.prog 165 10 10 := ⟨⟨_, _, _, _, _, Tryd.underlying165, rfl, rfl, ti163.h, by decide⟩⟩
instance pl165 : PlC Tryd.prog 165 ((#[(0, 1), (1, 1), (2, 1), (3, 1), (4, 1), (5, 1), (6, 1), (7, 1), (8, 1), (9, 1), (10, 1)] : Array (Nat × Nat))[·]?) := ⟨.inl ⟨_, _, Tryd.underlying165, fun w => by kernel_rfl, rfl⟩⟩
instance mixed : MixC Tryd.prog := ⟨by kernel_rfl⟩
end Go.Proofs.YtjjpmbaddpiamaaDoor.F
