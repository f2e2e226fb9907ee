/-
  Closed facts on the program's types and functions. Written by a program (facts.py) out of the translation.
-/
import Derived.Test.YtdpljpmohpifbaaE
import Derived.Test.YtdpljpmohpifbaaProg
set_option linter.unusedSimpArgs false
set_option linter.unusedVariables false
namespace Go.Proofs.Ytdpljpmohpifbaa.F
open Go.RowKit
theorem ti1 : TI Try.prog 1 (.nilFunc) 1 8 := by unfold TI; kernel_rfl
theorem leaf1 : IsLeaf Try.prog 1 := ⟨_, Try.underlying1, rfl⟩
theorem ti2 : TI Try.prog 2 (.int .i64 0) 1 8 := by unfold TI; kernel_rfl
theorem leaf2 : IsLeaf Try.prog 2 := ⟨_, Try.underlying2, rfl⟩
theorem ti3 : TI Try.prog 3 (.int .i64 0) 1 8 := by unfold TI; kernel_rfl
theorem leaf3 : IsLeaf Try.prog 3 := ⟨_, Try.underlying3, rfl⟩
theorem ti4 : TI Try.prog 4 (.bool false) 1 1 := by unfold TI; kernel_rfl
theorem leaf4 : IsLeaf Try.prog 4 := ⟨_, Try.underlying4, rfl⟩
theorem ti5 : TI Try.prog 5 (.int .u8 0) 1 1 := by unfold TI; kernel_rfl
theorem leaf5 : IsLeaf Try.prog 5 := ⟨_, Try.underlying5, rfl⟩
theorem ti6 : TI Try.prog 6 (.int .u8 0) 1 1 := by unfold TI; kernel_rfl
theorem leaf6 : IsLeaf Try.prog 6 := ⟨_, Try.underlying6, rfl⟩
theorem ti7 : TI Try.prog 7 (.agg #[.int .i64 0, .int .i64 0, .bool false, .int .u8 0]) 4 24 := by unfold TI; kernel_rfl
theorem agg7 : IsAgg Try.prog 7 := ⟨_, Try.underlying7, rfl⟩
theorem fld7_0 : FieldAt Try.prog 7 0 0 := ⟨_, _, _, _, _, Try.underlying7, rfl, rfl, ti2, by decide⟩
theorem fld7_1 : FieldAt Try.prog 7 1 1 := ⟨_, _, _, _, _, Try.underlying7, rfl, rfl, ti3, by decide⟩
theorem fld7_2 : FieldAt Try.prog 7 2 2 := ⟨_, _, _, _, _, Try.underlying7, rfl, rfl, ti4, by decide⟩
theorem fld7_3 : FieldAt Try.prog 7 3 3 := ⟨_, _, _, _, _, Try.underlying7, rfl, rfl, ti6, by decide⟩
theorem pl7 : Places Try.prog 7 ((#[(0, 1), (1, 1), (2, 1), (3, 1)] : Array (Nat × Nat))[·]?) := .inl ⟨_, _, Try.underlying7, fun w => by kernel_rfl, rfl⟩
theorem ti8 : TI Try.prog 8 (.agg #[.int .i64 0, .int .i64 0, .bool false, .int .u8 0]) 4 24 := by unfold TI; kernel_rfl
theorem agg8 : IsAgg Try.prog 8 := ⟨_, Try.underlying8, rfl⟩
theorem fld8_0 : FieldAt Try.prog 8 0 0 := ⟨_, _, _, _, _, Try.underlying8, rfl, rfl, ti2, by decide⟩
theorem fld8_1 : FieldAt Try.prog 8 1 1 := ⟨_, _, _, _, _, Try.underlying8, rfl, rfl, ti3, by decide⟩
theorem fld8_2 : FieldAt Try.prog 8 2 2 := ⟨_, _, _, _, _, Try.underlying8, rfl, rfl, ti4, by decide⟩
theorem fld8_3 : FieldAt Try.prog 8 3 3 := ⟨_, _, _, _, _, Try.underlying8, rfl, rfl, ti6, by decide⟩
theorem pl8 : Places Try.prog 8 ((#[(0, 1), (1, 1), (2, 1), (3, 1)] : Array (Nat × Nat))[·]?) := .inl ⟨_, _, Try.underlying8, fun w => by kernel_rfl, rfl⟩
theorem ti9 : TI Try.prog 9 (.string ⟨#[]⟩) 1 16 := by unfold TI; kernel_rfl
theorem leaf9 : IsLeaf Try.prog 9 := ⟨_, Try.underlying9, rfl⟩
theorem ti10 : TI Try.prog 10 (.string ⟨#[]⟩) 1 16 := by unfold TI; kernel_rfl
theorem leaf10 : IsLeaf Try.prog 10 := ⟨_, Try.underlying10, rfl⟩
theorem ti11 : TI Try.prog 11 (.string ⟨#[]⟩) 1 16 := by unfold TI; kernel_rfl
theorem leaf11 : IsLeaf Try.prog 11 := ⟨_, Try.underlying11, rfl⟩
theorem ti12 : TI Try.prog 12 (.int .u64 0) 1 8 := by unfold TI; kernel_rfl
theorem leaf12 : IsLeaf Try.prog 12 := ⟨_, Try.underlying12, rfl⟩
theorem ti13 : TI Try.prog 13 (.agg #[.string ⟨#[]⟩, .int .u64 0]) 2 24 := by unfold TI; kernel_rfl
theorem agg13 : IsAgg Try.prog 13 := ⟨_, Try.underlying13, rfl⟩
theorem fld13_0 : FieldAt Try.prog 13 0 0 := ⟨_, _, _, _, _, Try.underlying13, rfl, rfl, ti9, by decide⟩
theorem fld13_1 : FieldAt Try.prog 13 1 1 := ⟨_, _, _, _, _, Try.underlying13, rfl, rfl, ti12, by decide⟩
theorem pl13 : Places Try.prog 13 ((#[(0, 1), (1, 1)] : Array (Nat × Nat))[·]?) := .inl ⟨_, _, Try.underlying13, fun w => by kernel_rfl, rfl⟩
theorem ti14 : TI Try.prog 14 (.agg #[.string ⟨#[]⟩, .int .u64 0]) 2 24 := by unfold TI; kernel_rfl
theorem agg14 : IsAgg Try.prog 14 := ⟨_, Try.underlying14, rfl⟩
theorem fld14_0 : FieldAt Try.prog 14 0 0 := ⟨_, _, _, _, _, Try.underlying14, rfl, rfl, ti9, by decide⟩
theorem fld14_1 : FieldAt Try.prog 14 1 1 := ⟨_, _, _, _, _, Try.underlying14, rfl, rfl, ti12, by decide⟩
theorem pl14 : Places Try.prog 14 ((#[(0, 1), (1, 1)] : Array (Nat × Nat))[·]?) := .inl ⟨_, _, Try.underlying14, fun w => by kernel_rfl, rfl⟩
theorem ti15 : TI Try.prog 15 (.pointer none) 1 8 := by unfold TI; kernel_rfl
theorem leaf15 : IsLeaf Try.prog 15 := ⟨_, Try.underlying15, rfl⟩
theorem ti16 : TI Try.prog 16 (.pointer none) 1 8 := by unfold TI; kernel_rfl
theorem leaf16 : IsLeaf Try.prog 16 := ⟨_, Try.underlying16, rfl⟩
theorem ti17 : TI Try.prog 17 (.pointer none) 1 8 := by unfold TI; kernel_rfl
theorem leaf17 : IsLeaf Try.prog 17 := ⟨_, Try.underlying17, rfl⟩
theorem ti18 : TI Try.prog 18 (.agg #[.pointer none]) 1 8 := by unfold TI; kernel_rfl
theorem agg18 : IsAgg Try.prog 18 := ⟨_, Try.underlying18, rfl⟩
theorem fld18_0 : FieldAt Try.prog 18 0 0 := ⟨_, _, _, _, _, Try.underlying18, rfl, rfl, ti17, by decide⟩
theorem pl18 : Places Try.prog 18 ((#[(0, 1)] : Array (Nat × Nat))[·]?) := .inl ⟨_, _, Try.underlying18, fun w => by kernel_rfl, rfl⟩
theorem ti19 : TI Try.prog 19 (.agg #[.pointer none]) 1 8 := by unfold TI; kernel_rfl
theorem agg19 : IsAgg Try.prog 19 := ⟨_, Try.underlying19, rfl⟩
theorem fld19_0 : FieldAt Try.prog 19 0 0 := ⟨_, _, _, _, _, Try.underlying19, rfl, rfl, ti17, by decide⟩
theorem pl19 : Places Try.prog 19 ((#[(0, 1)] : Array (Nat × Nat))[·]?) := .inl ⟨_, _, Try.underlying19, fun w => by kernel_rfl, rfl⟩
theorem ti20 : TI Try.prog 20 (.nilIface) 1 16 := by unfold TI; kernel_rfl
theorem leaf20 : IsLeaf Try.prog 20 := ⟨_, Try.underlying20, rfl⟩
theorem ti21 : TI Try.prog 21 (.int .i32 0) 1 4 := by unfold TI; kernel_rfl
theorem leaf21 : IsLeaf Try.prog 21 := ⟨_, Try.underlying21, rfl⟩
theorem ti22 : TI Try.prog 22 (.slice none 0 0) 1 24 := by unfold TI; kernel_rfl
theorem leaf22 : IsLeaf Try.prog 22 := ⟨_, Try.underlying22, rfl⟩
theorem ti23 : TI Try.prog 23 (.slice none 0 0) 1 24 := by unfold TI; kernel_rfl
theorem leaf23 : IsLeaf Try.prog 23 := ⟨_, Try.underlying23, rfl⟩
theorem ti24 : TI Try.prog 24 (.agg #[.int .i64 0, .slice none 0 0, .slice none 0 0]) 3 56 := by unfold TI; kernel_rfl
theorem agg24 : IsAgg Try.prog 24 := ⟨_, Try.underlying24, rfl⟩
theorem fld24_0 : FieldAt Try.prog 24 0 0 := ⟨_, _, _, _, _, Try.underlying24, rfl, rfl, ti3, by decide⟩
theorem fld24_1 : FieldAt Try.prog 24 1 1 := ⟨_, _, _, _, _, Try.underlying24, rfl, rfl, ti22, by decide⟩
theorem fld24_2 : FieldAt Try.prog 24 2 2 := ⟨_, _, _, _, _, Try.underlying24, rfl, rfl, ti23, by decide⟩
theorem pl24 : Places Try.prog 24 ((#[(0, 1), (1, 1), (2, 1)] : Array (Nat × Nat))[·]?) := .inl ⟨_, _, Try.underlying24, fun w => by kernel_rfl, rfl⟩
theorem ti25 : TI Try.prog 25 (.agg #[.int .i64 0, .slice none 0 0, .slice none 0 0]) 3 56 := by unfold TI; kernel_rfl
theorem agg25 : IsAgg Try.prog 25 := ⟨_, Try.underlying25, rfl⟩
theorem fld25_0 : FieldAt Try.prog 25 0 0 := ⟨_, _, _, _, _, Try.underlying25, rfl, rfl, ti3, by decide⟩
theorem fld25_1 : FieldAt Try.prog 25 1 1 := ⟨_, _, _, _, _, Try.underlying25, rfl, rfl, ti22, by decide⟩
theorem fld25_2 : FieldAt Try.prog 25 2 2 := ⟨_, _, _, _, _, Try.underlying25, rfl, rfl, ti23, by decide⟩
theorem pl25 : Places Try.prog 25 ((#[(0, 1), (1, 1), (2, 1)] : Array (Nat × Nat))[·]?) := .inl ⟨_, _, Try.underlying25, fun w => by kernel_rfl, rfl⟩
theorem ti26 : TI Try.prog 26 (.slice none 0 0) 1 24 := by unfold TI; kernel_rfl
theorem leaf26 : IsLeaf Try.prog 26 := ⟨_, Try.underlying26, rfl⟩
theorem ti27 : TI Try.prog 27 (.nilFunc) 1 8 := by unfold TI; kernel_rfl
theorem leaf27 : IsLeaf Try.prog 27 := ⟨_, Try.underlying27, rfl⟩
theorem ti28 : TI Try.prog 28 (.nilFunc) 1 8 := by unfold TI; kernel_rfl
theorem leaf28 : IsLeaf Try.prog 28 := ⟨_, Try.underlying28, rfl⟩
theorem ti29 : TI Try.prog 29 (.int .i64 0) 1 8 := by unfold TI; kernel_rfl
theorem leaf29 : IsLeaf Try.prog 29 := ⟨_, Try.underlying29, rfl⟩
theorem ti31 : TI Try.prog 31 (.nilFunc) 1 8 := by unfold TI; kernel_rfl
theorem leaf31 : IsLeaf Try.prog 31 := ⟨_, Try.underlying31, rfl⟩
theorem ti33 : TI Try.prog 33 (.nilFunc) 1 8 := by unfold TI; kernel_rfl
theorem leaf33 : IsLeaf Try.prog 33 := ⟨_, Try.underlying33, rfl⟩
theorem ti35 : TI Try.prog 35 (.nilFunc) 1 8 := by unfold TI; kernel_rfl
theorem leaf35 : IsLeaf Try.prog 35 := ⟨_, Try.underlying35, rfl⟩
theorem ti37 : TI Try.prog 37 (.nilFunc) 1 8 := by unfold TI; kernel_rfl
theorem leaf37 : IsLeaf Try.prog 37 := ⟨_, Try.underlying37, rfl⟩
theorem ti39 : TI Try.prog 39 (.nilFunc) 1 8 := by unfold TI; kernel_rfl
theorem leaf39 : IsLeaf Try.prog 39 := ⟨_, Try.underlying39, rfl⟩
theorem ti41 : TI Try.prog 41 (.nilFunc) 1 8 := by unfold TI; kernel_rfl
theorem leaf41 : IsLeaf Try.prog 41 := ⟨_, Try.underlying41, rfl⟩
theorem ti42 : TI Try.prog 42 (.nilFunc) 1 8 := by unfold TI; kernel_rfl
theorem leaf42 : IsLeaf Try.prog 42 := ⟨_, Try.underlying42, rfl⟩
theorem ti43 : TI Try.prog 43 (.nilFunc) 1 8 := by unfold TI; kernel_rfl
theorem leaf43 : IsLeaf Try.prog 43 := ⟨_, Try.underlying43, rfl⟩
theorem ti45 : TI Try.prog 45 (.nilFunc) 1 8 := by unfold TI; kernel_rfl
theorem leaf45 : IsLeaf Try.prog 45 := ⟨_, Try.underlying45, rfl⟩
theorem ti47 : TI Try.prog 47 (.nilFunc) 1 8 := by unfold TI; kernel_rfl
theorem leaf47 : IsLeaf Try.prog 47 := ⟨_, Try.underlying47, rfl⟩
theorem ti48 : TI Try.prog 48 (.nilFunc) 1 8 := by unfold TI; kernel_rfl
theorem leaf48 : IsLeaf Try.prog 48 := ⟨_, Try.underlying48, rfl⟩
theorem ti49 : TI Try.prog 49 (.nilFunc) 1 8 := by unfold TI; kernel_rfl
theorem leaf49 : IsLeaf Try.prog 49 := ⟨_, Try.underlying49, rfl⟩
theorem ti50 : TI Try.prog 50 (.nilFunc) 1 8 := by unfold TI; kernel_rfl
theorem leaf50 : IsLeaf Try.prog 50 := ⟨_, Try.underlying50, rfl⟩
theorem ti52 : TI Try.prog 52 (.nilFunc) 1 8 := by unfold TI; kernel_rfl
theorem leaf52 : IsLeaf Try.prog 52 := ⟨_, Try.underlying52, rfl⟩
theorem ti53 : TI Try.prog 53 (.nilFunc) 1 8 := by unfold TI; kernel_rfl
theorem leaf53 : IsLeaf Try.prog 53 := ⟨_, Try.underlying53, rfl⟩
theorem ti54 : TI Try.prog 54 (.nilFunc) 1 8 := by unfold TI; kernel_rfl
theorem leaf54 : IsLeaf Try.prog 54 := ⟨_, Try.underlying54, rfl⟩
theorem ti56 : TI Try.prog 56 (.nilFunc) 1 8 := by unfold TI; kernel_rfl
theorem leaf56 : IsLeaf Try.prog 56 := ⟨_, Try.underlying56, rfl⟩
theorem ti57 : TI Try.prog 57 (.nilFunc) 1 8 := by unfold TI; kernel_rfl
theorem leaf57 : IsLeaf Try.prog 57 := ⟨_, Try.underlying57, rfl⟩
theorem ti59 : TI Try.prog 59 (.nilFunc) 1 8 := by unfold TI; kernel_rfl
theorem leaf59 : IsLeaf Try.prog 59 := ⟨_, Try.underlying59, rfl⟩
theorem ti60 : TI Try.prog 60 (.slice none 0 0) 1 24 := by unfold TI; kernel_rfl
theorem leaf60 : IsLeaf Try.prog 60 := ⟨_, Try.underlying60, rfl⟩
theorem ti61 : TI Try.prog 61 (.nilFunc) 1 8 := by unfold TI; kernel_rfl
theorem leaf61 : IsLeaf Try.prog 61 := ⟨_, Try.underlying61, rfl⟩
theorem ti62 : TI Try.prog 62 (.nilFunc) 1 8 := by unfold TI; kernel_rfl
theorem leaf62 : IsLeaf Try.prog 62 := ⟨_, Try.underlying62, rfl⟩
theorem ti63 : TI Try.prog 63 (.nilFunc) 1 8 := by unfold TI; kernel_rfl
theorem leaf63 : IsLeaf Try.prog 63 := ⟨_, Try.underlying63, rfl⟩
theorem ti64 : TI Try.prog 64 (.nilFunc) 1 8 := by unfold TI; kernel_rfl
theorem leaf64 : IsLeaf Try.prog 64 := ⟨_, Try.underlying64, rfl⟩
theorem ti65 : TI Try.prog 65 (.nilFunc) 1 8 := by unfold TI; kernel_rfl
theorem leaf65 : IsLeaf Try.prog 65 := ⟨_, Try.underlying65, rfl⟩
theorem ti66 : TI Try.prog 66 (.nilFunc) 1 8 := by unfold TI; kernel_rfl
theorem leaf66 : IsLeaf Try.prog 66 := ⟨_, Try.underlying66, rfl⟩
theorem ti67 : TI Try.prog 67 (.nilFunc) 1 8 := by unfold TI; kernel_rfl
theorem leaf67 : IsLeaf Try.prog 67 := ⟨_, Try.underlying67, rfl⟩
theorem ti68 : TI Try.prog 68 (.nilFunc) 1 8 := by unfold TI; kernel_rfl
theorem leaf68 : IsLeaf Try.prog 68 := ⟨_, Try.underlying68, rfl⟩
theorem ti69 : TI Try.prog 69 (.nilFunc) 1 8 := by unfold TI; kernel_rfl
theorem leaf69 : IsLeaf Try.prog 69 := ⟨_, Try.underlying69, rfl⟩
theorem ti70 : TI Try.prog 70 (.nilFunc) 1 8 := by unfold TI; kernel_rfl
theorem leaf70 : IsLeaf Try.prog 70 := ⟨_, Try.underlying70, rfl⟩
theorem ti71 : TI Try.prog 71 (.agg #[.int .i64 0, .int .i64 0]) 2 16 := by unfold TI; kernel_rfl
theorem agg71 : IsAgg Try.prog 71 := ⟨_, Try.underlying71, rfl⟩
theorem fld71_0 : FieldAt Try.prog 71 0 0 := ⟨_, _, _, _, _, Try.underlying71, rfl, rfl, ti3, by decide⟩
theorem fld71_1 : FieldAt Try.prog 71 1 1 := ⟨_, _, _, _, _, Try.underlying71, rfl, rfl, ti3, by decide⟩
theorem pl71 : Places Try.prog 71 ((#[(0, 1), (1, 1)] : Array (Nat × Nat))[·]?) := .inl ⟨_, _, Try.underlying71, fun w => by kernel_rfl, rfl⟩
theorem ti72 : TI Try.prog 72 (.agg #[.int .i64 0, .int .i64 0]) 2 16 := by unfold TI; kernel_rfl
theorem agg72 : IsAgg Try.prog 72 := ⟨_, Try.underlying72, rfl⟩
theorem fld72_0 : FieldAt Try.prog 72 0 0 := ⟨_, _, _, _, _, Try.underlying72, rfl, rfl, ti3, by decide⟩
theorem fld72_1 : FieldAt Try.prog 72 1 1 := ⟨_, _, _, _, _, Try.underlying72, rfl, rfl, ti3, by decide⟩
theorem pl72 : Places Try.prog 72 ((#[(0, 1), (1, 1)] : Array (Nat × Nat))[·]?) := .inl ⟨_, _, Try.underlying72, fun w => by kernel_rfl, rfl⟩
theorem ti73 : TI Try.prog 73 (.map none) 1 8 := by unfold TI; kernel_rfl
theorem leaf73 : IsLeaf Try.prog 73 := ⟨_, Try.underlying73, rfl⟩
theorem ti74 : TI Try.prog 74 (.nilFunc) 1 8 := by unfold TI; kernel_rfl
theorem leaf74 : IsLeaf Try.prog 74 := ⟨_, Try.underlying74, rfl⟩
theorem ti76 : TI Try.prog 76 (.nilFunc) 1 8 := by unfold TI; kernel_rfl
theorem leaf76 : IsLeaf Try.prog 76 := ⟨_, Try.underlying76, rfl⟩
theorem ti77 : TI Try.prog 77 (.nilFunc) 1 8 := by unfold TI; kernel_rfl
theorem leaf77 : IsLeaf Try.prog 77 := ⟨_, Try.underlying77, rfl⟩
theorem ti78 : TI Try.prog 78 (.agg #[.int .i64 0, .int .i64 0]) 2 16 := by unfold TI; kernel_rfl
theorem agg78 : IsAgg Try.prog 78 := ⟨_, Try.underlying78, rfl⟩
theorem pl78 : Places Try.prog 78 (fun i => some (i * 1, 1)) := .inr ⟨_, _, _, _, _, Try.underlying78, ti3, rfl⟩
theorem ti79 : TI Try.prog 79 (.nilFunc) 1 8 := by unfold TI; kernel_rfl
theorem leaf79 : IsLeaf Try.prog 79 := ⟨_, Try.underlying79, rfl⟩
theorem ti80 : TI Try.prog 80 (.nilFunc) 1 8 := by unfold TI; kernel_rfl
theorem leaf80 : IsLeaf Try.prog 80 := ⟨_, Try.underlying80, rfl⟩
theorem ti81 : TI Try.prog 81 (.nilFunc) 1 8 := by unfold TI; kernel_rfl
theorem leaf81 : IsLeaf Try.prog 81 := ⟨_, Try.underlying81, rfl⟩
theorem ti82 : TI Try.prog 82 (.nilFunc) 1 8 := by unfold TI; kernel_rfl
theorem leaf82 : IsLeaf Try.prog 82 := ⟨_, Try.underlying82, rfl⟩
theorem ti83 : TI Try.prog 83 (.slice none 0 0) 1 24 := by unfold TI; kernel_rfl
theorem leaf83 : IsLeaf Try.prog 83 := ⟨_, Try.underlying83, rfl⟩
theorem ti84 : TI Try.prog 84 (.map none) 1 8 := by unfold TI; kernel_rfl
theorem leaf84 : IsLeaf Try.prog 84 := ⟨_, Try.underlying84, rfl⟩
theorem ti85 : TI Try.prog 85 (.int .u64 0) 1 8 := by unfold TI; kernel_rfl
theorem leaf85 : IsLeaf Try.prog 85 := ⟨_, Try.underlying85, rfl⟩
theorem ti86 : TI Try.prog 86 (.slice none 0 0) 1 24 := by unfold TI; kernel_rfl
theorem leaf86 : IsLeaf Try.prog 86 := ⟨_, Try.underlying86, rfl⟩
theorem ti88 : TI Try.prog 88 (.map none) 1 8 := by unfold TI; kernel_rfl
theorem leaf88 : IsLeaf Try.prog 88 := ⟨_, Try.underlying88, rfl⟩
theorem ti89 : TI Try.prog 89 (.slice none 0 0) 1 24 := by unfold TI; kernel_rfl
theorem leaf89 : IsLeaf Try.prog 89 := ⟨_, Try.underlying89, rfl⟩
theorem ti90 : TI Try.prog 90 (.nilFunc) 1 8 := by unfold TI; kernel_rfl
theorem leaf90 : IsLeaf Try.prog 90 := ⟨_, Try.underlying90, rfl⟩
theorem ti91 : TI Try.prog 91 (.nilFunc) 1 8 := by unfold TI; kernel_rfl
theorem leaf91 : IsLeaf Try.prog 91 := ⟨_, Try.underlying91, rfl⟩
theorem ti92 : TI Try.prog 92 (.agg #[.pointer none, .pointer none, .pointer none, .string ⟨#[]⟩]) 4 40 := by unfold TI; kernel_rfl
theorem agg92 : IsAgg Try.prog 92 := ⟨_, Try.underlying92, rfl⟩
theorem fld92_0 : FieldAt Try.prog 92 0 0 := ⟨_, _, _, _, _, Try.underlying92, rfl, rfl, ti17, by decide⟩
theorem fld92_1 : FieldAt Try.prog 92 1 1 := ⟨_, _, _, _, _, Try.underlying92, rfl, rfl, ti17, by decide⟩
theorem fld92_2 : FieldAt Try.prog 92 2 2 := ⟨_, _, _, _, _, Try.underlying92, rfl, rfl, ti17, by decide⟩
theorem fld92_3 : FieldAt Try.prog 92 3 3 := ⟨_, _, _, _, _, Try.underlying92, rfl, rfl, ti9, by decide⟩
theorem pl92 : Places Try.prog 92 ((#[(0, 1), (1, 1), (2, 1), (3, 1)] : Array (Nat × Nat))[·]?) := .inl ⟨_, _, Try.underlying92, fun w => by kernel_rfl, rfl⟩
theorem ti93 : TI Try.prog 93 (.agg #[.pointer none, .pointer none, .pointer none, .string ⟨#[]⟩]) 4 40 := by unfold TI; kernel_rfl
theorem agg93 : IsAgg Try.prog 93 := ⟨_, Try.underlying93, rfl⟩
theorem fld93_0 : FieldAt Try.prog 93 0 0 := ⟨_, _, _, _, _, Try.underlying93, rfl, rfl, ti17, by decide⟩
theorem fld93_1 : FieldAt Try.prog 93 1 1 := ⟨_, _, _, _, _, Try.underlying93, rfl, rfl, ti17, by decide⟩
theorem fld93_2 : FieldAt Try.prog 93 2 2 := ⟨_, _, _, _, _, Try.underlying93, rfl, rfl, ti17, by decide⟩
theorem fld93_3 : FieldAt Try.prog 93 3 3 := ⟨_, _, _, _, _, Try.underlying93, rfl, rfl, ti9, by decide⟩
theorem pl93 : Places Try.prog 93 ((#[(0, 1), (1, 1), (2, 1), (3, 1)] : Array (Nat × Nat))[·]?) := .inl ⟨_, _, Try.underlying93, fun w => by kernel_rfl, rfl⟩
theorem ti94 : TI Try.prog 94 (.agg #[]) 0 0 := by unfold TI; kernel_rfl
theorem agg94 : IsAgg Try.prog 94 := ⟨_, Try.underlying94, rfl⟩
theorem pl94 : Places Try.prog 94 (fun i => some (i * 1, 1)) := .inr ⟨_, _, _, _, _, Try.underlying94, ti16, rfl⟩
theorem ti95 : TI Try.prog 95 (.agg #[]) 0 0 := by unfold TI; kernel_rfl
theorem agg95 : IsAgg Try.prog 95 := ⟨_, Try.underlying95, rfl⟩
theorem pl95 : Places Try.prog 95 ((#[(0, 0)] : Array (Nat × Nat))[·]?) := .inl ⟨_, _, Try.underlying95, fun w => by kernel_rfl, rfl⟩
theorem ti96 : TI Try.prog 96 (.agg #[]) 0 0 := by unfold TI; kernel_rfl
theorem agg96 : IsAgg Try.prog 96 := ⟨_, Try.underlying96, rfl⟩
theorem pl96 : Places Try.prog 96 ((#[(0, 0)] : Array (Nat × Nat))[·]?) := .inl ⟨_, _, Try.underlying96, fun w => by kernel_rfl, rfl⟩
theorem ti97 : TI Try.prog 97 (.nilFunc) 1 8 := by unfold TI; kernel_rfl
theorem leaf97 : IsLeaf Try.prog 97 := ⟨_, Try.underlying97, rfl⟩
theorem ti98 : TI Try.prog 98 (.int .u32 0) 1 4 := by unfold TI; kernel_rfl
theorem leaf98 : IsLeaf Try.prog 98 := ⟨_, Try.underlying98, rfl⟩
theorem ti99 : TI Try.prog 99 (.int .u8 0) 1 1 := by unfold TI; kernel_rfl
theorem leaf99 : IsLeaf Try.prog 99 := ⟨_, Try.underlying99, rfl⟩
theorem ti100 : TI Try.prog 100 (.int .u8 0) 1 1 := by unfold TI; kernel_rfl
theorem leaf100 : IsLeaf Try.prog 100 := ⟨_, Try.underlying100, rfl⟩
theorem ti101 : TI Try.prog 101 (.nilFunc) 1 8 := by unfold TI; kernel_rfl
theorem leaf101 : IsLeaf Try.prog 101 := ⟨_, Try.underlying101, rfl⟩
theorem ti102 : TI Try.prog 102 (.pointer none) 1 8 := by unfold TI; kernel_rfl
theorem leaf102 : IsLeaf Try.prog 102 := ⟨_, Try.underlying102, rfl⟩
theorem ti103 : TI Try.prog 103 (.int .i32 0) 1 4 := by unfold TI; kernel_rfl
theorem leaf103 : IsLeaf Try.prog 103 := ⟨_, Try.underlying103, rfl⟩
theorem ti104 : TI Try.prog 104 (.int .i32 0) 1 4 := by unfold TI; kernel_rfl
theorem leaf104 : IsLeaf Try.prog 104 := ⟨_, Try.underlying104, rfl⟩
theorem ti105 : TI Try.prog 105 (.agg #[.int .u64 0, .int .u64 0, .int .u32 0, .int .u8 0, .int .u8 0, .int .u8 0, .int .u8 0, .nilFunc, .pointer none, .int .i32 0, .int .i32 0]) 11 48 := by unfold TI; kernel_rfl
theorem agg105 : IsAgg Try.prog 105 := ⟨_, Try.underlying105, rfl⟩
theorem fld105_0 : FieldAt Try.prog 105 0 0 := ⟨_, _, _, _, _, Try.underlying105, rfl, rfl, ti12, by decide⟩
theorem fld105_1 : FieldAt Try.prog 105 1 1 := ⟨_, _, _, _, _, Try.underlying105, rfl, rfl, ti12, by decide⟩
theorem fld105_2 : FieldAt Try.prog 105 2 2 := ⟨_, _, _, _, _, Try.underlying105, rfl, rfl, ti98, by decide⟩
theorem fld105_3 : FieldAt Try.prog 105 3 3 := ⟨_, _, _, _, _, Try.underlying105, rfl, rfl, ti99, by decide⟩
theorem fld105_4 : FieldAt Try.prog 105 4 4 := ⟨_, _, _, _, _, Try.underlying105, rfl, rfl, ti5, by decide⟩
theorem fld105_5 : FieldAt Try.prog 105 5 5 := ⟨_, _, _, _, _, Try.underlying105, rfl, rfl, ti5, by decide⟩
theorem fld105_6 : FieldAt Try.prog 105 6 6 := ⟨_, _, _, _, _, Try.underlying105, rfl, rfl, ti100, by decide⟩
theorem fld105_7 : FieldAt Try.prog 105 7 7 := ⟨_, _, _, _, _, Try.underlying105, rfl, rfl, ti101, by decide⟩
theorem fld105_8 : FieldAt Try.prog 105 8 8 := ⟨_, _, _, _, _, Try.underlying105, rfl, rfl, ti102, by decide⟩
theorem fld105_9 : FieldAt Try.prog 105 9 9 := ⟨_, _, _, _, _, Try.underlying105, rfl, rfl, ti103, by decide⟩
theorem fld105_10 : FieldAt Try.prog 105 10 10 := ⟨_, _, _, _, _, Try.underlying105, rfl, rfl, ti104, by decide⟩
theorem pl105 : Places Try.prog 105 ((#[(0, 1), (1, 1), (2, 1), (3, 1), (4, 1), (5, 1), (6, 1), (7, 1), (8, 1), (9, 1), (10, 1)] : Array (Nat × Nat))[·]?) := .inl ⟨_, _, Try.underlying105, fun w => by kernel_rfl, rfl⟩
theorem ti106 : TI Try.prog 106 (.agg #[.int .u64 0, .int .u64 0, .int .u32 0, .int .u8 0, .int .u8 0, .int .u8 0, .int .u8 0, .nilFunc, .pointer none, .int .i32 0, .int .i32 0]) 11 48 := by unfold TI; kernel_rfl
theorem agg106 : IsAgg Try.prog 106 := ⟨_, Try.underlying106, rfl⟩
theorem fld106_0 : FieldAt Try.prog 106 0 0 := ⟨_, _, _, _, _, Try.underlying106, rfl, rfl, ti12, by decide⟩
theorem fld106_1 : FieldAt Try.prog 106 1 1 := ⟨_, _, _, _, _, Try.underlying106, rfl, rfl, ti12, by decide⟩
theorem fld106_2 : FieldAt Try.prog 106 2 2 := ⟨_, _, _, _, _, Try.underlying106, rfl, rfl, ti98, by decide⟩
theorem fld106_3 : FieldAt Try.prog 106 3 3 := ⟨_, _, _, _, _, Try.underlying106, rfl, rfl, ti99, by decide⟩
theorem fld106_4 : FieldAt Try.prog 106 4 4 := ⟨_, _, _, _, _, Try.underlying106, rfl, rfl, ti5, by decide⟩
theorem fld106_5 : FieldAt Try.prog 106 5 5 := ⟨_, _, _, _, _, Try.underlying106, rfl, rfl, ti5, by decide⟩
theorem fld106_6 : FieldAt Try.prog 106 6 6 := ⟨_, _, _, _, _, Try.underlying106, rfl, rfl, ti100, by decide⟩
theorem fld106_7 : FieldAt Try.prog 106 7 7 := ⟨_, _, _, _, _, Try.underlying106, rfl, rfl, ti101, by decide⟩
theorem fld106_8 : FieldAt Try.prog 106 8 8 := ⟨_, _, _, _, _, Try.underlying106, rfl, rfl, ti102, by decide⟩
theorem fld106_9 : FieldAt Try.prog 106 9 9 := ⟨_, _, _, _, _, Try.underlying106, rfl, rfl, ti103, by decide⟩
theorem fld106_10 : FieldAt Try.prog 106 10 10 := ⟨_, _, _, _, _, Try.underlying106, rfl, rfl, ti104, by decide⟩
theorem pl106 : Places Try.prog 106 ((#[(0, 1), (1, 1), (2, 1), (3, 1), (4, 1), (5, 1), (6, 1), (7, 1), (8, 1), (9, 1), (10, 1)] : Array (Nat × Nat))[·]?) := .inl ⟨_, _, Try.underlying106, fun w => by kernel_rfl, rfl⟩
theorem mixed : Try.prog.follows .mixedOrders = true := by kernel_rfl
end Go.Proofs.Ytdpljpmohpifbaa.F
