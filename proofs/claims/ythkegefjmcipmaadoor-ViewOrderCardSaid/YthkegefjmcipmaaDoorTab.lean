/- The types of the program, for the engine. Laid by a program of mine. -/
import Derived.Test.YthkegefjmcipmaaDoorProg
import Derived.Test.YthkegefjmcipmaaDoorEngG
namespace Go.Proofs.YthkegefjmcipmaaDoor
open Go.Eng
set_option maxRecDepth 100000
def ti1 : TI := ⟨1, 8, .v .nilFunc, .other, false⟩
theorem ti1_ok : EntryOk Tryd.prog 1 ti1 := ⟨by kernel_rfl, (by show match Tryd.prog.underlying 1 with | some (.struct _) | some (.array _ _) | none => False | _ => True; rw [Tryd.underlying1]; trivial), .inl rfl, rfl, rfl, fun h => by cases h⟩
def ti2 : TI := ⟨1, 8, .v (.int .i64 0), .int .i64, false⟩
theorem ti2_ok : EntryOk Tryd.prog 2 ti2 := ⟨by kernel_rfl, Tryd.underlying2, .inl rfl, rfl, rfl, fun h => by cases h⟩
def ti3 : TI := ⟨1, 8, .v (.int .i64 0), .int .i64, false⟩
theorem ti3_ok : EntryOk Tryd.prog 3 ti3 := ⟨by kernel_rfl, Tryd.underlying3, .inl rfl, rfl, rfl, fun h => by cases h⟩
def ti4 : TI := ⟨1, 1, .v (.bool false), .bool, false⟩
theorem ti4_ok : EntryOk Tryd.prog 4 ti4 := ⟨by kernel_rfl, Tryd.underlying4, .inl rfl, rfl, rfl, fun h => by cases h⟩
def ti5 : TI := ⟨1, 1, .v (.int .u8 0), .int .u8, false⟩
theorem ti5_ok : EntryOk Tryd.prog 5 ti5 := ⟨by kernel_rfl, Tryd.underlying5, .inl rfl, rfl, rfl, fun h => by cases h⟩
def ti6 : TI := ⟨1, 1, .v (.int .u8 0), .int .u8, false⟩
theorem ti6_ok : EntryOk Tryd.prog 6 ti6 := ⟨by kernel_rfl, Tryd.underlying6, .inl rfl, rfl, rfl, fun h => by cases h⟩
def ti7 : TI := ⟨4, 24, .agg [.v (.int .i64 0), .v (.int .i64 0), .v (.bool false), .v (.int .u8 0)], .struct [(0, 2), (1, 3), (2, 4), (3, 6)], false⟩
theorem ti7_ok : EntryOk Tryd.prog 7 ti7 := ⟨by kernel_rfl, ⟨by kernel_rfl, by kernel_rfl, by kernel_rfl⟩, .inr ⟨_, rfl⟩, rfl, rfl, fun h => by cases h⟩
def ti8 : TI := ⟨4, 24, .agg [.v (.int .i64 0), .v (.int .i64 0), .v (.bool false), .v (.int .u8 0)], .struct [(0, 2), (1, 3), (2, 4), (3, 6)], false⟩
theorem ti8_ok : EntryOk Tryd.prog 8 ti8 := ⟨by kernel_rfl, ⟨by kernel_rfl, by kernel_rfl, by kernel_rfl⟩, .inr ⟨_, rfl⟩, rfl, rfl, fun h => by cases h⟩
def ti9 : TI := ⟨1, 16, .v (.string ByteArray.empty), .str, false⟩
theorem ti9_ok : EntryOk Tryd.prog 9 ti9 := ⟨by kernel_rfl, Tryd.underlying9, .inl rfl, rfl, rfl, fun h => by cases h⟩
def ti10 : TI := ⟨1, 16, .v (.string ByteArray.empty), .str, false⟩
theorem ti10_ok : EntryOk Tryd.prog 10 ti10 := ⟨by kernel_rfl, Tryd.underlying10, .inl rfl, rfl, rfl, fun h => by cases h⟩
def ti11 : TI := ⟨1, 16, .v (.string ByteArray.empty), .str, false⟩
theorem ti11_ok : EntryOk Tryd.prog 11 ti11 := ⟨by kernel_rfl, Tryd.underlying11, .inl rfl, rfl, rfl, fun h => by cases h⟩
def ti12 : TI := ⟨1, 8, .v (.int .u64 0), .int .u64, false⟩
theorem ti12_ok : EntryOk Tryd.prog 12 ti12 := ⟨by kernel_rfl, Tryd.underlying12, .inl rfl, rfl, rfl, fun h => by cases h⟩
def ti13 : TI := ⟨2, 24, .agg [.v (.string ByteArray.empty), .v (.int .u64 0)], .struct [(0, 9), (1, 12)], false⟩
theorem ti13_ok : EntryOk Tryd.prog 13 ti13 := ⟨by kernel_rfl, ⟨by kernel_rfl, by kernel_rfl, by kernel_rfl⟩, .inr ⟨_, rfl⟩, rfl, rfl, fun h => by cases h⟩
def ti14 : TI := ⟨2, 24, .agg [.v (.string ByteArray.empty), .v (.int .u64 0)], .struct [(0, 9), (1, 12)], false⟩
theorem ti14_ok : EntryOk Tryd.prog 14 ti14 := ⟨by kernel_rfl, ⟨by kernel_rfl, by kernel_rfl, by kernel_rfl⟩, .inr ⟨_, rfl⟩, rfl, rfl, fun h => by cases h⟩
def ti15 : TI := ⟨1, 8, .v (.pointer none), .ptr 122, false⟩
theorem ti15_ok : EntryOk Tryd.prog 15 ti15 := ⟨by kernel_rfl, Tryd.underlying15, .inl rfl, rfl, rfl, fun h => by cases h⟩
def ti16 : TI := ⟨1, 8, .v (.pointer none), .ptr 125, false⟩
theorem ti16_ok : EntryOk Tryd.prog 16 ti16 := ⟨by kernel_rfl, Tryd.underlying16, .inl rfl, rfl, rfl, fun h => by cases h⟩
def ti17 : TI := ⟨1, 8, .v (.pointer none), .ptr 132, false⟩
theorem ti17_ok : EntryOk Tryd.prog 17 ti17 := ⟨by kernel_rfl, Tryd.underlying17, .inl rfl, rfl, rfl, fun h => by cases h⟩
def ti18 : TI := ⟨1, 8, .agg [.v (.pointer none)], .struct [(0, 17)], false⟩
theorem ti18_ok : EntryOk Tryd.prog 18 ti18 := ⟨by kernel_rfl, ⟨by kernel_rfl, by kernel_rfl, by kernel_rfl⟩, .inr ⟨_, rfl⟩, rfl, rfl, fun h => by cases h⟩
def ti19 : TI := ⟨1, 8, .agg [.v (.pointer none)], .struct [(0, 17)], false⟩
theorem ti19_ok : EntryOk Tryd.prog 19 ti19 := ⟨by kernel_rfl, ⟨by kernel_rfl, by kernel_rfl, by kernel_rfl⟩, .inr ⟨_, rfl⟩, rfl, rfl, fun h => by cases h⟩
def ti20 : TI := ⟨1, 16, .v .nilIface, .iface, false⟩
theorem ti20_ok : EntryOk Tryd.prog 20 ti20 := ⟨by kernel_rfl, (by show match Tryd.prog.underlying 20 with | some (.interface _) => True | _ => False; rw [Tryd.underlying20]; trivial), .inl rfl, rfl, rfl, fun h => by cases h⟩
def ti21 : TI := ⟨1, 4, .v (.int .i32 0), .int .i32, false⟩
theorem ti21_ok : EntryOk Tryd.prog 21 ti21 := ⟨by kernel_rfl, Tryd.underlying21, .inl rfl, rfl, rfl, fun h => by cases h⟩
def ti22 : TI := ⟨4, 32, .agg [.v (.int .i64 0), .v (.int .i64 0), .v (.int .i64 0), .v (.int .i64 0)], .struct [(0, 3), (1, 3), (2, 3), (3, 3)], true⟩
theorem ti22_ok : EntryOk Tryd.prog 22 ti22 := ⟨by kernel_rfl, ⟨by kernel_rfl, by kernel_rfl, by kernel_rfl⟩, .inr ⟨_, rfl⟩, rfl, rfl, fun _ => ⟨by kernel_rfl, by kernel_rfl, by kernel_rfl⟩⟩
def ti23 : TI := ⟨4, 32, .agg [.v (.int .i64 0), .v (.int .i64 0), .v (.int .i64 0), .v (.int .i64 0)], .struct [(0, 3), (1, 3), (2, 3), (3, 3)], true⟩
theorem ti23_ok : EntryOk Tryd.prog 23 ti23 := ⟨by kernel_rfl, ⟨by kernel_rfl, by kernel_rfl, by kernel_rfl⟩, .inr ⟨_, rfl⟩, rfl, rfl, fun _ => ⟨by kernel_rfl, by kernel_rfl, by kernel_rfl⟩⟩
def ti24 : TI := ⟨1, 24, .v (.slice none 0 0), .slice 42, false⟩
theorem ti24_ok : EntryOk Tryd.prog 24 ti24 := ⟨by kernel_rfl, Tryd.underlying24, .inl rfl, rfl, rfl, fun h => by cases h⟩
def ti25 : TI := ⟨1, 8, .v .nilFunc, .other, false⟩
theorem ti25_ok : EntryOk Tryd.prog 25 ti25 := ⟨by kernel_rfl, (by show match Tryd.prog.underlying 25 with | some (.struct _) | some (.array _ _) | none => False | _ => True; rw [Tryd.underlying25]; trivial), .inl rfl, rfl, rfl, fun h => by cases h⟩
def ti26 : TI := ⟨1, 8, .v .nilFunc, .other, false⟩
theorem ti26_ok : EntryOk Tryd.prog 26 ti26 := ⟨by kernel_rfl, (by show match Tryd.prog.underlying 26 with | some (.struct _) | some (.array _ _) | none => False | _ => True; rw [Tryd.underlying26]; trivial), .inl rfl, rfl, rfl, fun h => by cases h⟩
def ti27 : TI := ⟨1, 24, .v (.slice none 0 0), .slice 9, false⟩
theorem ti27_ok : EntryOk Tryd.prog 27 ti27 := ⟨by kernel_rfl, Tryd.underlying27, .inl rfl, rfl, rfl, fun h => by cases h⟩
def ti28 : TI := ⟨1, 8, .v (.int .i64 0), .int .i64, false⟩
theorem ti28_ok : EntryOk Tryd.prog 28 ti28 := ⟨by kernel_rfl, Tryd.underlying28, .inl rfl, rfl, rfl, fun h => by cases h⟩
def ti30 : TI := ⟨1, 8, .v .nilFunc, .other, false⟩
theorem ti30_ok : EntryOk Tryd.prog 30 ti30 := ⟨by kernel_rfl, (by show match Tryd.prog.underlying 30 with | some (.struct _) | some (.array _ _) | none => False | _ => True; rw [Tryd.underlying30]; trivial), .inl rfl, rfl, rfl, fun h => by cases h⟩
def ti32 : TI := ⟨1, 8, .v .nilFunc, .other, false⟩
theorem ti32_ok : EntryOk Tryd.prog 32 ti32 := ⟨by kernel_rfl, (by show match Tryd.prog.underlying 32 with | some (.struct _) | some (.array _ _) | none => False | _ => True; rw [Tryd.underlying32]; trivial), .inl rfl, rfl, rfl, fun h => by cases h⟩
def ti33 : TI := ⟨1, 8, .v .nilFunc, .other, false⟩
theorem ti33_ok : EntryOk Tryd.prog 33 ti33 := ⟨by kernel_rfl, (by show match Tryd.prog.underlying 33 with | some (.struct _) | some (.array _ _) | none => False | _ => True; rw [Tryd.underlying33]; trivial), .inl rfl, rfl, rfl, fun h => by cases h⟩
def ti34 : TI := ⟨1, 8, .v .nilFunc, .other, false⟩
theorem ti34_ok : EntryOk Tryd.prog 34 ti34 := ⟨by kernel_rfl, (by show match Tryd.prog.underlying 34 with | some (.struct _) | some (.array _ _) | none => False | _ => True; rw [Tryd.underlying34]; trivial), .inl rfl, rfl, rfl, fun h => by cases h⟩
def ti35 : TI := ⟨1, 8, .v .nilFunc, .other, false⟩
theorem ti35_ok : EntryOk Tryd.prog 35 ti35 := ⟨by kernel_rfl, (by show match Tryd.prog.underlying 35 with | some (.struct _) | some (.array _ _) | none => False | _ => True; rw [Tryd.underlying35]; trivial), .inl rfl, rfl, rfl, fun h => by cases h⟩
def ti36 : TI := ⟨1, 8, .v (.int .i64 0), .int .i64, false⟩
theorem ti36_ok : EntryOk Tryd.prog 36 ti36 := ⟨by kernel_rfl, Tryd.underlying36, .inl rfl, rfl, rfl, fun h => by cases h⟩
def ti37 : TI := ⟨1, 8, .v .nilFunc, .other, false⟩
theorem ti37_ok : EntryOk Tryd.prog 37 ti37 := ⟨by kernel_rfl, (by show match Tryd.prog.underlying 37 with | some (.struct _) | some (.array _ _) | none => False | _ => True; rw [Tryd.underlying37]; trivial), .inl rfl, rfl, rfl, fun h => by cases h⟩
def ti38 : TI := ⟨1, 8, .v .nilFunc, .other, false⟩
theorem ti38_ok : EntryOk Tryd.prog 38 ti38 := ⟨by kernel_rfl, (by show match Tryd.prog.underlying 38 with | some (.struct _) | some (.array _ _) | none => False | _ => True; rw [Tryd.underlying38]; trivial), .inl rfl, rfl, rfl, fun h => by cases h⟩
def ti39 : TI := ⟨2, 16, .agg [.v (.int .i64 0), .v (.int .i64 0)], .struct [(0, 3), (1, 3)], true⟩
theorem ti39_ok : EntryOk Tryd.prog 39 ti39 := ⟨by kernel_rfl, ⟨by kernel_rfl, by kernel_rfl, by kernel_rfl⟩, .inr ⟨_, rfl⟩, rfl, rfl, fun _ => ⟨by kernel_rfl, by kernel_rfl, by kernel_rfl⟩⟩
def ti40 : TI := ⟨2, 16, .agg [.v (.int .i64 0), .v (.int .i64 0)], .struct [(0, 3), (1, 3)], true⟩
theorem ti40_ok : EntryOk Tryd.prog 40 ti40 := ⟨by kernel_rfl, ⟨by kernel_rfl, by kernel_rfl, by kernel_rfl⟩, .inr ⟨_, rfl⟩, rfl, rfl, fun _ => ⟨by kernel_rfl, by kernel_rfl, by kernel_rfl⟩⟩
def ti41 : TI := ⟨4, 40, .agg [.v (.int .i64 0), .v (.int .i64 0), .v (.string ByteArray.empty), .v (.int .i64 0)], .struct [(0, 40), (2, 9), (3, 36)], true⟩
theorem ti41_ok : EntryOk Tryd.prog 41 ti41 := ⟨by kernel_rfl, ⟨by kernel_rfl, by kernel_rfl, by kernel_rfl⟩, .inr ⟨_, rfl⟩, rfl, rfl, fun _ => ⟨by kernel_rfl, by kernel_rfl, by kernel_rfl⟩⟩
def ti42 : TI := ⟨4, 40, .agg [.v (.int .i64 0), .v (.int .i64 0), .v (.string ByteArray.empty), .v (.int .i64 0)], .struct [(0, 40), (2, 9), (3, 36)], true⟩
theorem ti42_ok : EntryOk Tryd.prog 42 ti42 := ⟨by kernel_rfl, ⟨by kernel_rfl, by kernel_rfl, by kernel_rfl⟩, .inr ⟨_, rfl⟩, rfl, rfl, fun _ => ⟨by kernel_rfl, by kernel_rfl, by kernel_rfl⟩⟩
def ti43 : TI := ⟨1, 8, .v .nilFunc, .other, false⟩
theorem ti43_ok : EntryOk Tryd.prog 43 ti43 := ⟨by kernel_rfl, (by show match Tryd.prog.underlying 43 with | some (.struct _) | some (.array _ _) | none => False | _ => True; rw [Tryd.underlying43]; trivial), .inl rfl, rfl, rfl, fun h => by cases h⟩
def ti44 : TI := ⟨1, 24, .v (.slice none 0 0), .slice 3, false⟩
theorem ti44_ok : EntryOk Tryd.prog 44 ti44 := ⟨by kernel_rfl, Tryd.underlying44, .inl rfl, rfl, rfl, fun h => by cases h⟩
def ti46 : TI := ⟨1, 8, .v .nilFunc, .other, false⟩
theorem ti46_ok : EntryOk Tryd.prog 46 ti46 := ⟨by kernel_rfl, (by show match Tryd.prog.underlying 46 with | some (.struct _) | some (.array _ _) | none => False | _ => True; rw [Tryd.underlying46]; trivial), .inl rfl, rfl, rfl, fun h => by cases h⟩
def ti48 : TI := ⟨1, 8, .v .nilFunc, .other, false⟩
theorem ti48_ok : EntryOk Tryd.prog 48 ti48 := ⟨by kernel_rfl, (by show match Tryd.prog.underlying 48 with | some (.struct _) | some (.array _ _) | none => False | _ => True; rw [Tryd.underlying48]; trivial), .inl rfl, rfl, rfl, fun h => by cases h⟩
def ti50 : TI := ⟨1, 8, .v .nilFunc, .other, false⟩
theorem ti50_ok : EntryOk Tryd.prog 50 ti50 := ⟨by kernel_rfl, (by show match Tryd.prog.underlying 50 with | some (.struct _) | some (.array _ _) | none => False | _ => True; rw [Tryd.underlying50]; trivial), .inl rfl, rfl, rfl, fun h => by cases h⟩
def ti51 : TI := ⟨1, 8, .v .nilFunc, .other, false⟩
theorem ti51_ok : EntryOk Tryd.prog 51 ti51 := ⟨by kernel_rfl, (by show match Tryd.prog.underlying 51 with | some (.struct _) | some (.array _ _) | none => False | _ => True; rw [Tryd.underlying51]; trivial), .inl rfl, rfl, rfl, fun h => by cases h⟩
def ti52 : TI := ⟨1, 8, .v .nilFunc, .other, false⟩
theorem ti52_ok : EntryOk Tryd.prog 52 ti52 := ⟨by kernel_rfl, (by show match Tryd.prog.underlying 52 with | some (.struct _) | some (.array _ _) | none => False | _ => True; rw [Tryd.underlying52]; trivial), .inl rfl, rfl, rfl, fun h => by cases h⟩
def ti53 : TI := ⟨1, 24, .v (.slice none 0 0), .slice 60, false⟩
theorem ti53_ok : EntryOk Tryd.prog 53 ti53 := ⟨by kernel_rfl, Tryd.underlying53, .inl rfl, rfl, rfl, fun h => by cases h⟩
def ti54 : TI := ⟨1, 8, .v .nilFunc, .other, false⟩
theorem ti54_ok : EntryOk Tryd.prog 54 ti54 := ⟨by kernel_rfl, (by show match Tryd.prog.underlying 54 with | some (.struct _) | some (.array _ _) | none => False | _ => True; rw [Tryd.underlying54]; trivial), .inl rfl, rfl, rfl, fun h => by cases h⟩
def ti55 : TI := ⟨1, 8, .v .nilFunc, .other, false⟩
theorem ti55_ok : EntryOk Tryd.prog 55 ti55 := ⟨by kernel_rfl, (by show match Tryd.prog.underlying 55 with | some (.struct _) | some (.array _ _) | none => False | _ => True; rw [Tryd.underlying55]; trivial), .inl rfl, rfl, rfl, fun h => by cases h⟩
def ti56 : TI := ⟨1, 8, .v .nilFunc, .other, false⟩
theorem ti56_ok : EntryOk Tryd.prog 56 ti56 := ⟨by kernel_rfl, (by show match Tryd.prog.underlying 56 with | some (.struct _) | some (.array _ _) | none => False | _ => True; rw [Tryd.underlying56]; trivial), .inl rfl, rfl, rfl, fun h => by cases h⟩
def ti57 : TI := ⟨1, 8, .v .nilFunc, .other, false⟩
theorem ti57_ok : EntryOk Tryd.prog 57 ti57 := ⟨by kernel_rfl, (by show match Tryd.prog.underlying 57 with | some (.struct _) | some (.array _ _) | none => False | _ => True; rw [Tryd.underlying57]; trivial), .inl rfl, rfl, rfl, fun h => by cases h⟩
def ti58 : TI := ⟨1, 8, .v .nilFunc, .other, false⟩
theorem ti58_ok : EntryOk Tryd.prog 58 ti58 := ⟨by kernel_rfl, (by show match Tryd.prog.underlying 58 with | some (.struct _) | some (.array _ _) | none => False | _ => True; rw [Tryd.underlying58]; trivial), .inl rfl, rfl, rfl, fun h => by cases h⟩
def ti59 : TI := ⟨1, 8, .v .nilFunc, .other, false⟩
theorem ti59_ok : EntryOk Tryd.prog 59 ti59 := ⟨by kernel_rfl, (by show match Tryd.prog.underlying 59 with | some (.struct _) | some (.array _ _) | none => False | _ => True; rw [Tryd.underlying59]; trivial), .inl rfl, rfl, rfl, fun h => by cases h⟩
def ti60 : TI := ⟨1, 8, .v (.pointer none), .ptr 63, false⟩
theorem ti60_ok : EntryOk Tryd.prog 60 ti60 := ⟨by kernel_rfl, Tryd.underlying60, .inl rfl, rfl, rfl, fun h => by cases h⟩
def ti61 : TI := ⟨1, 8, .v (.map none), .map 3 42, false⟩
theorem ti61_ok : EntryOk Tryd.prog 61 ti61 := ⟨by kernel_rfl, Tryd.underlying61, .inl rfl, rfl, rfl, fun h => by cases h⟩
def ti62 : TI := ⟨3, 32, .agg [.v (.string ByteArray.empty), .v (.int .i64 0), .v (.map none)], .struct [(0, 9), (1, 3), (2, 61)], false⟩
theorem ti62_ok : EntryOk Tryd.prog 62 ti62 := ⟨by kernel_rfl, ⟨by kernel_rfl, by kernel_rfl, by kernel_rfl⟩, .inr ⟨_, rfl⟩, rfl, rfl, fun h => by cases h⟩
def ti63 : TI := ⟨3, 32, .agg [.v (.string ByteArray.empty), .v (.int .i64 0), .v (.map none)], .struct [(0, 9), (1, 3), (2, 61)], false⟩
theorem ti63_ok : EntryOk Tryd.prog 63 ti63 := ⟨by kernel_rfl, ⟨by kernel_rfl, by kernel_rfl, by kernel_rfl⟩, .inr ⟨_, rfl⟩, rfl, rfl, fun h => by cases h⟩
def ti64 : TI := ⟨1, 8, .v .nilFunc, .other, false⟩
theorem ti64_ok : EntryOk Tryd.prog 64 ti64 := ⟨by kernel_rfl, (by show match Tryd.prog.underlying 64 with | some (.struct _) | some (.array _ _) | none => False | _ => True; rw [Tryd.underlying64]; trivial), .inl rfl, rfl, rfl, fun h => by cases h⟩
def ti65 : TI := ⟨1, 8, .v .nilFunc, .other, false⟩
theorem ti65_ok : EntryOk Tryd.prog 65 ti65 := ⟨by kernel_rfl, (by show match Tryd.prog.underlying 65 with | some (.struct _) | some (.array _ _) | none => False | _ => True; rw [Tryd.underlying65]; trivial), .inl rfl, rfl, rfl, fun h => by cases h⟩
def ti67 : TI := ⟨1, 8, .v .nilFunc, .other, false⟩
theorem ti67_ok : EntryOk Tryd.prog 67 ti67 := ⟨by kernel_rfl, (by show match Tryd.prog.underlying 67 with | some (.struct _) | some (.array _ _) | none => False | _ => True; rw [Tryd.underlying67]; trivial), .inl rfl, rfl, rfl, fun h => by cases h⟩
def ti68 : TI := ⟨1, 8, .v .nilFunc, .other, false⟩
theorem ti68_ok : EntryOk Tryd.prog 68 ti68 := ⟨by kernel_rfl, (by show match Tryd.prog.underlying 68 with | some (.struct _) | some (.array _ _) | none => False | _ => True; rw [Tryd.underlying68]; trivial), .inl rfl, rfl, rfl, fun h => by cases h⟩
def ti69 : TI := ⟨1, 24, .v (.slice none 0 0), .slice 5, false⟩
theorem ti69_ok : EntryOk Tryd.prog 69 ti69 := ⟨by kernel_rfl, Tryd.underlying69, .inl rfl, rfl, rfl, fun h => by cases h⟩
def ti70 : TI := ⟨1, 8, .v .nilFunc, .other, false⟩
theorem ti70_ok : EntryOk Tryd.prog 70 ti70 := ⟨by kernel_rfl, (by show match Tryd.prog.underlying 70 with | some (.struct _) | some (.array _ _) | none => False | _ => True; rw [Tryd.underlying70]; trivial), .inl rfl, rfl, rfl, fun h => by cases h⟩
def ti71 : TI := ⟨1, 8, .v .nilFunc, .other, false⟩
theorem ti71_ok : EntryOk Tryd.prog 71 ti71 := ⟨by kernel_rfl, (by show match Tryd.prog.underlying 71 with | some (.struct _) | some (.array _ _) | none => False | _ => True; rw [Tryd.underlying71]; trivial), .inl rfl, rfl, rfl, fun h => by cases h⟩
def ti73 : TI := ⟨1, 8, .v .nilFunc, .other, false⟩
theorem ti73_ok : EntryOk Tryd.prog 73 ti73 := ⟨by kernel_rfl, (by show match Tryd.prog.underlying 73 with | some (.struct _) | some (.array _ _) | none => False | _ => True; rw [Tryd.underlying73]; trivial), .inl rfl, rfl, rfl, fun h => by cases h⟩
def ti75 : TI := ⟨1, 8, .v .nilFunc, .other, false⟩
theorem ti75_ok : EntryOk Tryd.prog 75 ti75 := ⟨by kernel_rfl, (by show match Tryd.prog.underlying 75 with | some (.struct _) | some (.array _ _) | none => False | _ => True; rw [Tryd.underlying75]; trivial), .inl rfl, rfl, rfl, fun h => by cases h⟩
def ti76 : TI := ⟨1, 8, .v (.pointer none), .ptr 78, false⟩
theorem ti76_ok : EntryOk Tryd.prog 76 ti76 := ⟨by kernel_rfl, Tryd.underlying76, .inl rfl, rfl, rfl, fun h => by cases h⟩
def ti77 : TI := ⟨2, 32, .agg [.v (.pointer none), .v (.slice none 0 0)], .struct [(0, 76), (1, 69)], false⟩
theorem ti77_ok : EntryOk Tryd.prog 77 ti77 := ⟨by kernel_rfl, ⟨by kernel_rfl, by kernel_rfl, by kernel_rfl⟩, .inr ⟨_, rfl⟩, rfl, rfl, fun h => by cases h⟩
def ti78 : TI := ⟨2, 32, .agg [.v (.pointer none), .v (.slice none 0 0)], .struct [(0, 76), (1, 69)], false⟩
theorem ti78_ok : EntryOk Tryd.prog 78 ti78 := ⟨by kernel_rfl, ⟨by kernel_rfl, by kernel_rfl, by kernel_rfl⟩, .inr ⟨_, rfl⟩, rfl, rfl, fun h => by cases h⟩
def ti79 : TI := ⟨1, 16, .v .nilIface, .iface, false⟩
theorem ti79_ok : EntryOk Tryd.prog 79 ti79 := ⟨by kernel_rfl, (by show match Tryd.prog.underlying 79 with | some (.interface _) => True | _ => False; rw [Tryd.underlying79]; trivial), .inl rfl, rfl, rfl, fun h => by cases h⟩
def ti80 : TI := ⟨1, 16, .v .nilIface, .iface, false⟩
theorem ti80_ok : EntryOk Tryd.prog 80 ti80 := ⟨by kernel_rfl, (by show match Tryd.prog.underlying 80 with | some (.interface _) => True | _ => False; rw [Tryd.underlying80]; trivial), .inl rfl, rfl, rfl, fun h => by cases h⟩
def ti82 : TI := ⟨1, 8, .v .nilFunc, .other, false⟩
theorem ti82_ok : EntryOk Tryd.prog 82 ti82 := ⟨by kernel_rfl, (by show match Tryd.prog.underlying 82 with | some (.struct _) | some (.array _ _) | none => False | _ => True; rw [Tryd.underlying82]; trivial), .inl rfl, rfl, rfl, fun h => by cases h⟩
def ti83 : TI := ⟨1, 8, .v .nilFunc, .other, false⟩
theorem ti83_ok : EntryOk Tryd.prog 83 ti83 := ⟨by kernel_rfl, (by show match Tryd.prog.underlying 83 with | some (.struct _) | some (.array _ _) | none => False | _ => True; rw [Tryd.underlying83]; trivial), .inl rfl, rfl, rfl, fun h => by cases h⟩
def ti84 : TI := ⟨1, 8, .v .nilFunc, .other, false⟩
theorem ti84_ok : EntryOk Tryd.prog 84 ti84 := ⟨by kernel_rfl, (by show match Tryd.prog.underlying 84 with | some (.struct _) | some (.array _ _) | none => False | _ => True; rw [Tryd.underlying84]; trivial), .inl rfl, rfl, rfl, fun h => by cases h⟩
def ti85 : TI := ⟨1, 8, .v (.int .u64 0), .int .u64, false⟩
theorem ti85_ok : EntryOk Tryd.prog 85 ti85 := ⟨by kernel_rfl, Tryd.underlying85, .inl rfl, rfl, rfl, fun h => by cases h⟩
def ti87 : TI := ⟨1, 8, .v .nilFunc, .other, false⟩
theorem ti87_ok : EntryOk Tryd.prog 87 ti87 := ⟨by kernel_rfl, (by show match Tryd.prog.underlying 87 with | some (.struct _) | some (.array _ _) | none => False | _ => True; rw [Tryd.underlying87]; trivial), .inl rfl, rfl, rfl, fun h => by cases h⟩
def ti88 : TI := ⟨1, 8, .v .nilFunc, .other, false⟩
theorem ti88_ok : EntryOk Tryd.prog 88 ti88 := ⟨by kernel_rfl, (by show match Tryd.prog.underlying 88 with | some (.struct _) | some (.array _ _) | none => False | _ => True; rw [Tryd.underlying88]; trivial), .inl rfl, rfl, rfl, fun h => by cases h⟩
def ti89 : TI := ⟨1, 8, .v .nilFunc, .other, false⟩
theorem ti89_ok : EntryOk Tryd.prog 89 ti89 := ⟨by kernel_rfl, (by show match Tryd.prog.underlying 89 with | some (.struct _) | some (.array _ _) | none => False | _ => True; rw [Tryd.underlying89]; trivial), .inl rfl, rfl, rfl, fun h => by cases h⟩
def ti90 : TI := ⟨1, 8, .v .nilFunc, .other, false⟩
theorem ti90_ok : EntryOk Tryd.prog 90 ti90 := ⟨by kernel_rfl, (by show match Tryd.prog.underlying 90 with | some (.struct _) | some (.array _ _) | none => False | _ => True; rw [Tryd.underlying90]; trivial), .inl rfl, rfl, rfl, fun h => by cases h⟩
def ti91 : TI := ⟨1, 8, .v .nilFunc, .other, false⟩
theorem ti91_ok : EntryOk Tryd.prog 91 ti91 := ⟨by kernel_rfl, (by show match Tryd.prog.underlying 91 with | some (.struct _) | some (.array _ _) | none => False | _ => True; rw [Tryd.underlying91]; trivial), .inl rfl, rfl, rfl, fun h => by cases h⟩
def ti93 : TI := ⟨1, 8, .v .nilFunc, .other, false⟩
theorem ti93_ok : EntryOk Tryd.prog 93 ti93 := ⟨by kernel_rfl, (by show match Tryd.prog.underlying 93 with | some (.struct _) | some (.array _ _) | none => False | _ => True; rw [Tryd.underlying93]; trivial), .inl rfl, rfl, rfl, fun h => by cases h⟩
def ti94 : TI := ⟨1, 8, .v .nilFunc, .other, false⟩
theorem ti94_ok : EntryOk Tryd.prog 94 ti94 := ⟨by kernel_rfl, (by show match Tryd.prog.underlying 94 with | some (.struct _) | some (.array _ _) | none => False | _ => True; rw [Tryd.underlying94]; trivial), .inl rfl, rfl, rfl, fun h => by cases h⟩
def ti95 : TI := ⟨3, 3, .agg [.v (.int .u8 0), .v (.int .u8 0), .v (.int .u8 0)], .arr 3 5, false⟩
theorem ti95_ok : EntryOk Tryd.prog 95 ti95 := ⟨by kernel_rfl, Tryd.underlying95, .inr ⟨_, rfl⟩, rfl, rfl, fun h => by cases h⟩
def ti96 : TI := ⟨1, 8, .v .nilFunc, .other, false⟩
theorem ti96_ok : EntryOk Tryd.prog 96 ti96 := ⟨by kernel_rfl, (by show match Tryd.prog.underlying 96 with | some (.struct _) | some (.array _ _) | none => False | _ => True; rw [Tryd.underlying96]; trivial), .inl rfl, rfl, rfl, fun h => by cases h⟩
def ti97 : TI := ⟨1, 8, .v (.pointer none), .ptr 5, false⟩
theorem ti97_ok : EntryOk Tryd.prog 97 ti97 := ⟨by kernel_rfl, Tryd.underlying97, .inl rfl, rfl, rfl, fun h => by cases h⟩
def ti98 : TI := ⟨1, 4, .v (.int .u32 0), .int .u32, false⟩
theorem ti98_ok : EntryOk Tryd.prog 98 ti98 := ⟨by kernel_rfl, Tryd.underlying98, .inl rfl, rfl, rfl, fun h => by cases h⟩
def ti100 : TI := ⟨1, 8, .v .nilFunc, .other, false⟩
theorem ti100_ok : EntryOk Tryd.prog 100 ti100 := ⟨by kernel_rfl, (by show match Tryd.prog.underlying 100 with | some (.struct _) | some (.array _ _) | none => False | _ => True; rw [Tryd.underlying100]; trivial), .inl rfl, rfl, rfl, fun h => by cases h⟩
def ti101 : TI := ⟨1, 8, .v (.int .u64 0), .int .u64, false⟩
theorem ti101_ok : EntryOk Tryd.prog 101 ti101 := ⟨by kernel_rfl, Tryd.underlying101, .inl rfl, rfl, rfl, fun h => by cases h⟩
def ti103 : TI := ⟨1, 8, .v .nilFunc, .other, false⟩
theorem ti103_ok : EntryOk Tryd.prog 103 ti103 := ⟨by kernel_rfl, (by show match Tryd.prog.underlying 103 with | some (.struct _) | some (.array _ _) | none => False | _ => True; rw [Tryd.underlying103]; trivial), .inl rfl, rfl, rfl, fun h => by cases h⟩
def ti104 : TI := ⟨24, 24, .agg [.v (.int .u8 0), .v (.int .u8 0), .v (.int .u8 0), .v (.int .u8 0), .v (.int .u8 0), .v (.int .u8 0), .v (.int .u8 0), .v (.int .u8 0), .v (.int .u8 0), .v (.int .u8 0), .v (.int .u8 0), .v (.int .u8 0), .v (.int .u8 0), .v (.int .u8 0), .v (.int .u8 0), .v (.int .u8 0), .v (.int .u8 0), .v (.int .u8 0), .v (.int .u8 0), .v (.int .u8 0), .v (.int .u8 0), .v (.int .u8 0), .v (.int .u8 0), .v (.int .u8 0)], .arr 24 5, false⟩
theorem ti104_ok : EntryOk Tryd.prog 104 ti104 := ⟨by kernel_rfl, Tryd.underlying104, .inr ⟨_, rfl⟩, rfl, rfl, fun h => by cases h⟩
def ti105 : TI := ⟨1, 8, .v .nilFunc, .other, false⟩
theorem ti105_ok : EntryOk Tryd.prog 105 ti105 := ⟨by kernel_rfl, (by show match Tryd.prog.underlying 105 with | some (.struct _) | some (.array _ _) | none => False | _ => True; rw [Tryd.underlying105]; trivial), .inl rfl, rfl, rfl, fun h => by cases h⟩
def ti106 : TI := ⟨1, 8, .v .nilFunc, .other, false⟩
theorem ti106_ok : EntryOk Tryd.prog 106 ti106 := ⟨by kernel_rfl, (by show match Tryd.prog.underlying 106 with | some (.struct _) | some (.array _ _) | none => False | _ => True; rw [Tryd.underlying106]; trivial), .inl rfl, rfl, rfl, fun h => by cases h⟩
def ti108 : TI := ⟨1, 8, .v .nilFunc, .other, false⟩
theorem ti108_ok : EntryOk Tryd.prog 108 ti108 := ⟨by kernel_rfl, (by show match Tryd.prog.underlying 108 with | some (.struct _) | some (.array _ _) | none => False | _ => True; rw [Tryd.underlying108]; trivial), .inl rfl, rfl, rfl, fun h => by cases h⟩
def ti109 : TI := ⟨1, 8, .v (.pointer none), .uptr, false⟩
theorem ti109_ok : EntryOk Tryd.prog 109 ti109 := ⟨by kernel_rfl, Tryd.underlying109, .inl rfl, rfl, rfl, fun h => by cases h⟩
def ti110 : TI := ⟨1, 8, .v .nilFunc, .other, false⟩
theorem ti110_ok : EntryOk Tryd.prog 110 ti110 := ⟨by kernel_rfl, (by show match Tryd.prog.underlying 110 with | some (.struct _) | some (.array _ _) | none => False | _ => True; rw [Tryd.underlying110]; trivial), .inl rfl, rfl, rfl, fun h => by cases h⟩
def ti111 : TI := ⟨1, 8, .v .nilFunc, .other, false⟩
theorem ti111_ok : EntryOk Tryd.prog 111 ti111 := ⟨by kernel_rfl, (by show match Tryd.prog.underlying 111 with | some (.struct _) | some (.array _ _) | none => False | _ => True; rw [Tryd.underlying111]; trivial), .inl rfl, rfl, rfl, fun h => by cases h⟩
def ti112 : TI := ⟨1, 8, .v .nilFunc, .other, false⟩
theorem ti112_ok : EntryOk Tryd.prog 112 ti112 := ⟨by kernel_rfl, (by show match Tryd.prog.underlying 112 with | some (.struct _) | some (.array _ _) | none => False | _ => True; rw [Tryd.underlying112]; trivial), .inl rfl, rfl, rfl, fun h => by cases h⟩
def ti113 : TI := ⟨1, 8, .v .nilFunc, .other, false⟩
theorem ti113_ok : EntryOk Tryd.prog 113 ti113 := ⟨by kernel_rfl, (by show match Tryd.prog.underlying 113 with | some (.struct _) | some (.array _ _) | none => False | _ => True; rw [Tryd.underlying113]; trivial), .inl rfl, rfl, rfl, fun h => by cases h⟩
def ti114 : TI := ⟨20, 160, .agg [.v (.int .u64 0), .v (.int .u64 0), .v (.int .u64 0), .v (.int .u64 0), .v (.int .u64 0), .v (.int .u64 0), .v (.int .u64 0), .v (.int .u64 0), .v (.int .u64 0), .v (.int .u64 0), .v (.int .u64 0), .v (.int .u64 0), .v (.int .u64 0), .v (.int .u64 0), .v (.int .u64 0), .v (.int .u64 0), .v (.int .u64 0), .v (.int .u64 0), .v (.int .u64 0), .v (.int .u64 0)], .arr 20 101, false⟩
theorem ti114_ok : EntryOk Tryd.prog 114 ti114 := ⟨by kernel_rfl, Tryd.underlying114, .inr ⟨_, rfl⟩, rfl, rfl, fun h => by cases h⟩
def ti115 : TI := ⟨65, 65, .agg [.v (.int .u8 0), .v (.int .u8 0), .v (.int .u8 0), .v (.int .u8 0), .v (.int .u8 0), .v (.int .u8 0), .v (.int .u8 0), .v (.int .u8 0), .v (.int .u8 0), .v (.int .u8 0), .v (.int .u8 0), .v (.int .u8 0), .v (.int .u8 0), .v (.int .u8 0), .v (.int .u8 0), .v (.int .u8 0), .v (.int .u8 0), .v (.int .u8 0), .v (.int .u8 0), .v (.int .u8 0), .v (.int .u8 0), .v (.int .u8 0), .v (.int .u8 0), .v (.int .u8 0), .v (.int .u8 0), .v (.int .u8 0), .v (.int .u8 0), .v (.int .u8 0), .v (.int .u8 0), .v (.int .u8 0), .v (.int .u8 0), .v (.int .u8 0), .v (.int .u8 0), .v (.int .u8 0), .v (.int .u8 0), .v (.int .u8 0), .v (.int .u8 0), .v (.int .u8 0), .v (.int .u8 0), .v (.int .u8 0), .v (.int .u8 0), .v (.int .u8 0), .v (.int .u8 0), .v (.int .u8 0), .v (.int .u8 0), .v (.int .u8 0), .v (.int .u8 0), .v (.int .u8 0), .v (.int .u8 0), .v (.int .u8 0), .v (.int .u8 0), .v (.int .u8 0), .v (.int .u8 0), .v (.int .u8 0), .v (.int .u8 0), .v (.int .u8 0), .v (.int .u8 0), .v (.int .u8 0), .v (.int .u8 0), .v (.int .u8 0), .v (.int .u8 0), .v (.int .u8 0), .v (.int .u8 0), .v (.int .u8 0), .v (.int .u8 0)], .arr 65 5, false⟩
theorem ti115_ok : EntryOk Tryd.prog 115 ti115 := ⟨by kernel_rfl, Tryd.underlying115, .inr ⟨_, rfl⟩, rfl, rfl, fun h => by cases h⟩
def ti116 : TI := ⟨1, 8, .v .nilFunc, .other, false⟩
theorem ti116_ok : EntryOk Tryd.prog 116 ti116 := ⟨by kernel_rfl, (by show match Tryd.prog.underlying 116 with | some (.struct _) | some (.array _ _) | none => False | _ => True; rw [Tryd.underlying116]; trivial), .inl rfl, rfl, rfl, fun h => by cases h⟩
def ti117 : TI := ⟨1, 8, .v .nilFunc, .other, false⟩
theorem ti117_ok : EntryOk Tryd.prog 117 ti117 := ⟨by kernel_rfl, (by show match Tryd.prog.underlying 117 with | some (.struct _) | some (.array _ _) | none => False | _ => True; rw [Tryd.underlying117]; trivial), .inl rfl, rfl, rfl, fun h => by cases h⟩
def ti118 : TI := ⟨1, 8, .v .nilFunc, .other, false⟩
theorem ti118_ok : EntryOk Tryd.prog 118 ti118 := ⟨by kernel_rfl, (by show match Tryd.prog.underlying 118 with | some (.struct _) | some (.array _ _) | none => False | _ => True; rw [Tryd.underlying118]; trivial), .inl rfl, rfl, rfl, fun h => by cases h⟩
def ti119 : TI := ⟨32, 32, .agg [.v (.int .u8 0), .v (.int .u8 0), .v (.int .u8 0), .v (.int .u8 0), .v (.int .u8 0), .v (.int .u8 0), .v (.int .u8 0), .v (.int .u8 0), .v (.int .u8 0), .v (.int .u8 0), .v (.int .u8 0), .v (.int .u8 0), .v (.int .u8 0), .v (.int .u8 0), .v (.int .u8 0), .v (.int .u8 0), .v (.int .u8 0), .v (.int .u8 0), .v (.int .u8 0), .v (.int .u8 0), .v (.int .u8 0), .v (.int .u8 0), .v (.int .u8 0), .v (.int .u8 0), .v (.int .u8 0), .v (.int .u8 0), .v (.int .u8 0), .v (.int .u8 0), .v (.int .u8 0), .v (.int .u8 0), .v (.int .u8 0), .v (.int .u8 0)], .arr 32 5, false⟩
theorem ti119_ok : EntryOk Tryd.prog 119 ti119 := ⟨by kernel_rfl, Tryd.underlying119, .inr ⟨_, rfl⟩, rfl, rfl, fun h => by cases h⟩
def ti120 : TI := ⟨64, 64, .agg [.v (.int .u8 0), .v (.int .u8 0), .v (.int .u8 0), .v (.int .u8 0), .v (.int .u8 0), .v (.int .u8 0), .v (.int .u8 0), .v (.int .u8 0), .v (.int .u8 0), .v (.int .u8 0), .v (.int .u8 0), .v (.int .u8 0), .v (.int .u8 0), .v (.int .u8 0), .v (.int .u8 0), .v (.int .u8 0), .v (.int .u8 0), .v (.int .u8 0), .v (.int .u8 0), .v (.int .u8 0), .v (.int .u8 0), .v (.int .u8 0), .v (.int .u8 0), .v (.int .u8 0), .v (.int .u8 0), .v (.int .u8 0), .v (.int .u8 0), .v (.int .u8 0), .v (.int .u8 0), .v (.int .u8 0), .v (.int .u8 0), .v (.int .u8 0), .v (.int .u8 0), .v (.int .u8 0), .v (.int .u8 0), .v (.int .u8 0), .v (.int .u8 0), .v (.int .u8 0), .v (.int .u8 0), .v (.int .u8 0), .v (.int .u8 0), .v (.int .u8 0), .v (.int .u8 0), .v (.int .u8 0), .v (.int .u8 0), .v (.int .u8 0), .v (.int .u8 0), .v (.int .u8 0), .v (.int .u8 0), .v (.int .u8 0), .v (.int .u8 0), .v (.int .u8 0), .v (.int .u8 0), .v (.int .u8 0), .v (.int .u8 0), .v (.int .u8 0), .v (.int .u8 0), .v (.int .u8 0), .v (.int .u8 0), .v (.int .u8 0), .v (.int .u8 0), .v (.int .u8 0), .v (.int .u8 0), .v (.int .u8 0)], .arr 64 5, false⟩
theorem ti120_ok : EntryOk Tryd.prog 120 ti120 := ⟨by kernel_rfl, Tryd.underlying120, .inr ⟨_, rfl⟩, rfl, rfl, fun h => by cases h⟩
def ti121 : TI := ⟨4, 40, .agg [.v (.pointer none), .v (.pointer none), .v (.pointer none), .v (.string ByteArray.empty)], .struct [(0, 17), (1, 17), (2, 17), (3, 9)], false⟩
theorem ti121_ok : EntryOk Tryd.prog 121 ti121 := ⟨by kernel_rfl, ⟨by kernel_rfl, by kernel_rfl, by kernel_rfl⟩, .inr ⟨_, rfl⟩, rfl, rfl, fun h => by cases h⟩
def ti122 : TI := ⟨4, 40, .agg [.v (.pointer none), .v (.pointer none), .v (.pointer none), .v (.string ByteArray.empty)], .struct [(0, 17), (1, 17), (2, 17), (3, 9)], false⟩
theorem ti122_ok : EntryOk Tryd.prog 122 ti122 := ⟨by kernel_rfl, ⟨by kernel_rfl, by kernel_rfl, by kernel_rfl⟩, .inr ⟨_, rfl⟩, rfl, rfl, fun h => by cases h⟩
def ti123 : TI := ⟨0, 0, .agg [], .arr 0 16, false⟩
theorem ti123_ok : EntryOk Tryd.prog 123 ti123 := ⟨by kernel_rfl, Tryd.underlying123, .inr ⟨_, rfl⟩, rfl, rfl, fun h => by cases h⟩
def ti124 : TI := ⟨0, 0, .agg [], .struct [(0, 123)], false⟩
theorem ti124_ok : EntryOk Tryd.prog 124 ti124 := ⟨by kernel_rfl, ⟨by kernel_rfl, by kernel_rfl, by kernel_rfl⟩, .inr ⟨_, rfl⟩, rfl, rfl, fun h => by cases h⟩
def ti125 : TI := ⟨0, 0, .agg [], .struct [(0, 123)], false⟩
theorem ti125_ok : EntryOk Tryd.prog 125 ti125 := ⟨by kernel_rfl, ⟨by kernel_rfl, by kernel_rfl, by kernel_rfl⟩, .inr ⟨_, rfl⟩, rfl, rfl, fun h => by cases h⟩
def ti126 : TI := ⟨1, 1, .v (.int .u8 0), .int .u8, false⟩
theorem ti126_ok : EntryOk Tryd.prog 126 ti126 := ⟨by kernel_rfl, Tryd.underlying126, .inl rfl, rfl, rfl, fun h => by cases h⟩
def ti127 : TI := ⟨1, 1, .v (.int .u8 0), .int .u8, false⟩
theorem ti127_ok : EntryOk Tryd.prog 127 ti127 := ⟨by kernel_rfl, Tryd.underlying127, .inl rfl, rfl, rfl, fun h => by cases h⟩
def ti128 : TI := ⟨1, 8, .v .nilFunc, .other, false⟩
theorem ti128_ok : EntryOk Tryd.prog 128 ti128 := ⟨by kernel_rfl, (by show match Tryd.prog.underlying 128 with | some (.struct _) | some (.array _ _) | none => False | _ => True; rw [Tryd.underlying128]; trivial), .inl rfl, rfl, rfl, fun h => by cases h⟩
def ti129 : TI := ⟨1, 4, .v (.int .i32 0), .int .i32, false⟩
theorem ti129_ok : EntryOk Tryd.prog 129 ti129 := ⟨by kernel_rfl, Tryd.underlying129, .inl rfl, rfl, rfl, fun h => by cases h⟩
def ti130 : TI := ⟨1, 4, .v (.int .i32 0), .int .i32, false⟩
theorem ti130_ok : EntryOk Tryd.prog 130 ti130 := ⟨by kernel_rfl, Tryd.underlying130, .inl rfl, rfl, rfl, fun h => by cases h⟩
def ti131 : TI := ⟨11, 48, .agg [.v (.int .u64 0), .v (.int .u64 0), .v (.int .u32 0), .v (.int .u8 0), .v (.int .u8 0), .v (.int .u8 0), .v (.int .u8 0), .v .nilFunc, .v (.pointer none), .v (.int .i32 0), .v (.int .i32 0)], .struct [(0, 12), (1, 12), (2, 98), (3, 126), (4, 5), (5, 5), (6, 127), (7, 128), (8, 97), (9, 129), (10, 130)], false⟩
theorem ti131_ok : EntryOk Tryd.prog 131 ti131 := ⟨by kernel_rfl, ⟨by kernel_rfl, by kernel_rfl, by kernel_rfl⟩, .inr ⟨_, rfl⟩, rfl, rfl, fun h => by cases h⟩
def ti132 : TI := ⟨11, 48, .agg [.v (.int .u64 0), .v (.int .u64 0), .v (.int .u32 0), .v (.int .u8 0), .v (.int .u8 0), .v (.int .u8 0), .v (.int .u8 0), .v .nilFunc, .v (.pointer none), .v (.int .i32 0), .v (.int .i32 0)], .struct [(0, 12), (1, 12), (2, 98), (3, 126), (4, 5), (5, 5), (6, 127), (7, 128), (8, 97), (9, 129), (10, 130)], false⟩
theorem ti132_ok : EntryOk Tryd.prog 132 ti132 := ⟨by kernel_rfl, ⟨by kernel_rfl, by kernel_rfl, by kernel_rfl⟩, .inr ⟨_, rfl⟩, rfl, rfl, fun h => by cases h⟩
def tab : Tab := [(1, ti1), (2, ti2), (3, ti3), (4, ti4), (5, ti5), (6, ti6), (7, ti7), (8, ti8), (9, ti9), (10, ti10), (11, ti11), (12, ti12), (13, ti13), (14, ti14), (15, ti15), (16, ti16), (17, ti17), (18, ti18), (19, ti19), (20, ti20), (21, ti21), (22, ti22), (23, ti23), (24, ti24), (25, ti25), (26, ti26), (27, ti27), (28, ti28), (30, ti30), (32, ti32), (33, ti33), (34, ti34), (35, ti35), (36, ti36), (37, ti37), (38, ti38), (39, ti39), (40, ti40), (41, ti41), (42, ti42), (43, ti43), (44, ti44), (46, ti46), (48, ti48), (50, ti50), (51, ti51), (52, ti52), (53, ti53), (54, ti54), (55, ti55), (56, ti56), (57, ti57), (58, ti58), (59, ti59), (60, ti60), (61, ti61), (62, ti62), (63, ti63), (64, ti64), (65, ti65), (67, ti67), (68, ti68), (69, ti69), (70, ti70), (71, ti71), (73, ti73), (75, ti75), (76, ti76), (77, ti77), (78, ti78), (79, ti79), (80, ti80), (82, ti82), (83, ti83), (84, ti84), (85, ti85), (87, ti87), (88, ti88), (89, ti89), (90, ti90), (91, ti91), (93, ti93), (94, ti94), (95, ti95), (96, ti96), (97, ti97), (98, ti98), (100, ti100), (101, ti101), (103, ti103), (104, ti104), (105, ti105), (106, ti106), (108, ti108), (109, ti109), (110, ti110), (111, ti111), (112, ti112), (113, ti113), (114, ti114), (115, ti115), (116, ti116), (117, ti117), (118, ti118), (119, ti119), (120, ti120), (121, ti121), (122, ti122), (123, ti123), (124, ti124), (125, ti125), (126, ti126), (127, ti127), (128, ti128), (129, ti129), (130, ti130), (131, ti131), (132, ti132)]
theorem tab_ok : TabOk Tryd.prog tab := ⟨ti1_ok, ti2_ok, ti3_ok, ti4_ok, ti5_ok, ti6_ok, ti7_ok, ti8_ok, ti9_ok, ti10_ok, ti11_ok, ti12_ok, ti13_ok, ti14_ok, ti15_ok, ti16_ok, ti17_ok, ti18_ok, ti19_ok, ti20_ok, ti21_ok, ti22_ok, ti23_ok, ti24_ok, ti25_ok, ti26_ok, ti27_ok, ti28_ok, ti30_ok, ti32_ok, ti33_ok, ti34_ok, ti35_ok, ti36_ok, ti37_ok, ti38_ok, ti39_ok, ti40_ok, ti41_ok, ti42_ok, ti43_ok, ti44_ok, ti46_ok, ti48_ok, ti50_ok, ti51_ok, ti52_ok, ti53_ok, ti54_ok, ti55_ok, ti56_ok, ti57_ok, ti58_ok, ti59_ok, ti60_ok, ti61_ok, ti62_ok, ti63_ok, ti64_ok, ti65_ok, ti67_ok, ti68_ok, ti69_ok, ti70_ok, ti71_ok, ti73_ok, ti75_ok, ti76_ok, ti77_ok, ti78_ok, ti79_ok, ti80_ok, ti82_ok, ti83_ok, ti84_ok, ti85_ok, ti87_ok, ti88_ok, ti89_ok, ti90_ok, ti91_ok, ti93_ok, ti94_ok, ti95_ok, ti96_ok, ti97_ok, ti98_ok, ti100_ok, ti101_ok, ti103_ok, ti104_ok, ti105_ok, ti106_ok, ti108_ok, ti109_ok, ti110_ok, ti111_ok, ti112_ok, ti113_ok, ti114_ok, ti115_ok, ti116_ok, ti117_ok, ti118_ok, ti119_ok, ti120_ok, ti121_ok, ti122_ok, ti123_ok, ti124_ok, ti125_ok, ti126_ok, ti127_ok, ti128_ok, ti129_ok, ti130_ok, ti131_ok, ti132_ok, trivial⟩
end Go.Proofs.YthkegefjmcipmaaDoor
