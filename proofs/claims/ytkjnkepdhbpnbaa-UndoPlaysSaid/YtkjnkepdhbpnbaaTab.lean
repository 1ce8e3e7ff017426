/- The types of the program, for the engine. Laid by a program of mine. -/
import Derived.Test.YtkjnkepdhbpnbaaProg
import Derived.Test.YtkjnkepdhbpnbaaEngG
namespace Go.Proofs.Ytkjnkepdhbpnbaa
open Go.Eng
set_option maxRecDepth 100000
def ti1 : TI := ⟨1, 8, .v .nilFunc, .other, false⟩
theorem ti1_ok : EntryOk Try.prog 1 ti1 := ⟨by kernel_rfl, (by show match Try.prog.underlying 1 with | some (.struct _) | some (.array _ _) | none => False | _ => True; rw [Try.underlying1]; trivial), .inl rfl, rfl, rfl, fun h => by cases h⟩
def ti2 : TI := ⟨1, 8, .v (.int .i64 0), .int .i64, false⟩
theorem ti2_ok : EntryOk Try.prog 2 ti2 := ⟨by kernel_rfl, Try.underlying2, .inl rfl, rfl, rfl, fun h => by cases h⟩
def ti3 : TI := ⟨1, 8, .v (.int .i64 0), .int .i64, false⟩
theorem ti3_ok : EntryOk Try.prog 3 ti3 := ⟨by kernel_rfl, Try.underlying3, .inl rfl, rfl, rfl, fun h => by cases h⟩
def ti4 : TI := ⟨1, 1, .v (.bool false), .bool, false⟩
theorem ti4_ok : EntryOk Try.prog 4 ti4 := ⟨by kernel_rfl, Try.underlying4, .inl rfl, rfl, rfl, fun h => by cases h⟩
def ti5 : TI := ⟨1, 1, .v (.int .u8 0), .int .u8, false⟩
theorem ti5_ok : EntryOk Try.prog 5 ti5 := ⟨by kernel_rfl, Try.underlying5, .inl rfl, rfl, rfl, fun h => by cases h⟩
def ti6 : TI := ⟨1, 1, .v (.int .u8 0), .int .u8, false⟩
theorem ti6_ok : EntryOk Try.prog 6 ti6 := ⟨by kernel_rfl, Try.underlying6, .inl rfl, rfl, rfl, fun h => by cases h⟩
def ti7 : TI := ⟨4, 24, .agg [.v (.int .i64 0), .v (.int .i64 0), .v (.bool false), .v (.int .u8 0)], .struct [(0, 2), (1, 3), (2, 4), (3, 6)], false⟩
theorem ti7_ok : EntryOk Try.prog 7 ti7 := ⟨by kernel_rfl, ⟨by kernel_rfl, by kernel_rfl, by kernel_rfl⟩, .inr ⟨_, rfl⟩, rfl, rfl, fun h => by cases h⟩
def ti8 : TI := ⟨4, 24, .agg [.v (.int .i64 0), .v (.int .i64 0), .v (.bool false), .v (.int .u8 0)], .struct [(0, 2), (1, 3), (2, 4), (3, 6)], false⟩
theorem ti8_ok : EntryOk Try.prog 8 ti8 := ⟨by kernel_rfl, ⟨by kernel_rfl, by kernel_rfl, by kernel_rfl⟩, .inr ⟨_, rfl⟩, rfl, rfl, fun h => by cases h⟩
def ti9 : TI := ⟨1, 16, .v (.string ByteArray.empty), .str, false⟩
theorem ti9_ok : EntryOk Try.prog 9 ti9 := ⟨by kernel_rfl, Try.underlying9, .inl rfl, rfl, rfl, fun h => by cases h⟩
def ti10 : TI := ⟨1, 16, .v (.string ByteArray.empty), .str, false⟩
theorem ti10_ok : EntryOk Try.prog 10 ti10 := ⟨by kernel_rfl, Try.underlying10, .inl rfl, rfl, rfl, fun h => by cases h⟩
def ti11 : TI := ⟨1, 16, .v (.string ByteArray.empty), .str, false⟩
theorem ti11_ok : EntryOk Try.prog 11 ti11 := ⟨by kernel_rfl, Try.underlying11, .inl rfl, rfl, rfl, fun h => by cases h⟩
def ti12 : TI := ⟨1, 8, .v (.int .u64 0), .int .u64, false⟩
theorem ti12_ok : EntryOk Try.prog 12 ti12 := ⟨by kernel_rfl, Try.underlying12, .inl rfl, rfl, rfl, fun h => by cases h⟩
def ti13 : TI := ⟨2, 24, .agg [.v (.string ByteArray.empty), .v (.int .u64 0)], .struct [(0, 9), (1, 12)], false⟩
theorem ti13_ok : EntryOk Try.prog 13 ti13 := ⟨by kernel_rfl, ⟨by kernel_rfl, by kernel_rfl, by kernel_rfl⟩, .inr ⟨_, rfl⟩, rfl, rfl, fun h => by cases h⟩
def ti14 : TI := ⟨2, 24, .agg [.v (.string ByteArray.empty), .v (.int .u64 0)], .struct [(0, 9), (1, 12)], false⟩
theorem ti14_ok : EntryOk Try.prog 14 ti14 := ⟨by kernel_rfl, ⟨by kernel_rfl, by kernel_rfl, by kernel_rfl⟩, .inr ⟨_, rfl⟩, rfl, rfl, fun h => by cases h⟩
def ti15 : TI := ⟨1, 8, .v (.pointer none), .ptr 107, false⟩
theorem ti15_ok : EntryOk Try.prog 15 ti15 := ⟨by kernel_rfl, Try.underlying15, .inl rfl, rfl, rfl, fun h => by cases h⟩
def ti16 : TI := ⟨1, 8, .v (.pointer none), .ptr 110, false⟩
theorem ti16_ok : EntryOk Try.prog 16 ti16 := ⟨by kernel_rfl, Try.underlying16, .inl rfl, rfl, rfl, fun h => by cases h⟩
def ti17 : TI := ⟨1, 8, .v (.pointer none), .ptr 119, false⟩
theorem ti17_ok : EntryOk Try.prog 17 ti17 := ⟨by kernel_rfl, Try.underlying17, .inl rfl, rfl, rfl, fun h => by cases h⟩
def ti18 : TI := ⟨1, 8, .agg [.v (.pointer none)], .struct [(0, 17)], false⟩
theorem ti18_ok : EntryOk Try.prog 18 ti18 := ⟨by kernel_rfl, ⟨by kernel_rfl, by kernel_rfl, by kernel_rfl⟩, .inr ⟨_, rfl⟩, rfl, rfl, fun h => by cases h⟩
def ti19 : TI := ⟨1, 8, .agg [.v (.pointer none)], .struct [(0, 17)], false⟩
theorem ti19_ok : EntryOk Try.prog 19 ti19 := ⟨by kernel_rfl, ⟨by kernel_rfl, by kernel_rfl, by kernel_rfl⟩, .inr ⟨_, rfl⟩, rfl, rfl, fun h => by cases h⟩
def ti20 : TI := ⟨1, 16, .v .nilIface, .iface, false⟩
theorem ti20_ok : EntryOk Try.prog 20 ti20 := ⟨by kernel_rfl, (by show match Try.prog.underlying 20 with | some (.interface _) => True | _ => False; rw [Try.underlying20]; trivial), .inl rfl, rfl, rfl, fun h => by cases h⟩
def ti21 : TI := ⟨1, 4, .v (.int .i32 0), .int .i32, false⟩
theorem ti21_ok : EntryOk Try.prog 21 ti21 := ⟨by kernel_rfl, Try.underlying21, .inl rfl, rfl, rfl, fun h => by cases h⟩
def ti22 : TI := ⟨1, 24, .v (.slice none 0 0), .slice 43, false⟩
theorem ti22_ok : EntryOk Try.prog 22 ti22 := ⟨by kernel_rfl, Try.underlying22, .inl rfl, rfl, rfl, fun h => by cases h⟩
def ti23 : TI := ⟨1, 8, .v (.pointer none), .ptr 55, false⟩
theorem ti23_ok : EntryOk Try.prog 23 ti23 := ⟨by kernel_rfl, Try.underlying23, .inl rfl, rfl, rfl, fun h => by cases h⟩
def ti24 : TI := ⟨1, 8, .v .nilFunc, .other, false⟩
theorem ti24_ok : EntryOk Try.prog 24 ti24 := ⟨by kernel_rfl, (by show match Try.prog.underlying 24 with | some (.struct _) | some (.array _ _) | none => False | _ => True; rw [Try.underlying24]; trivial), .inl rfl, rfl, rfl, fun h => by cases h⟩
def ti25 : TI := ⟨1, 8, .v .nilFunc, .other, false⟩
theorem ti25_ok : EntryOk Try.prog 25 ti25 := ⟨by kernel_rfl, (by show match Try.prog.underlying 25 with | some (.struct _) | some (.array _ _) | none => False | _ => True; rw [Try.underlying25]; trivial), .inl rfl, rfl, rfl, fun h => by cases h⟩
def ti26 : TI := ⟨1, 24, .v (.slice none 0 0), .slice 3, false⟩
theorem ti26_ok : EntryOk Try.prog 26 ti26 := ⟨by kernel_rfl, Try.underlying26, .inl rfl, rfl, rfl, fun h => by cases h⟩
def ti27 : TI := ⟨1, 8, .v .nilFunc, .other, false⟩
theorem ti27_ok : EntryOk Try.prog 27 ti27 := ⟨by kernel_rfl, (by show match Try.prog.underlying 27 with | some (.struct _) | some (.array _ _) | none => False | _ => True; rw [Try.underlying27]; trivial), .inl rfl, rfl, rfl, fun h => by cases h⟩
def ti28 : TI := ⟨1, 8, .v (.int .i64 0), .int .i64, false⟩
theorem ti28_ok : EntryOk Try.prog 28 ti28 := ⟨by kernel_rfl, Try.underlying28, .inl rfl, rfl, rfl, fun h => by cases h⟩
def ti29 : TI := ⟨1, 8, .v .nilFunc, .other, false⟩
theorem ti29_ok : EntryOk Try.prog 29 ti29 := ⟨by kernel_rfl, (by show match Try.prog.underlying 29 with | some (.struct _) | some (.array _ _) | none => False | _ => True; rw [Try.underlying29]; trivial), .inl rfl, rfl, rfl, fun h => by cases h⟩
def ti30 : TI := ⟨1, 8, .v .nilFunc, .other, false⟩
theorem ti30_ok : EntryOk Try.prog 30 ti30 := ⟨by kernel_rfl, (by show match Try.prog.underlying 30 with | some (.struct _) | some (.array _ _) | none => False | _ => True; rw [Try.underlying30]; trivial), .inl rfl, rfl, rfl, fun h => by cases h⟩
def ti31 : TI := ⟨1, 8, .v .nilFunc, .other, false⟩
theorem ti31_ok : EntryOk Try.prog 31 ti31 := ⟨by kernel_rfl, (by show match Try.prog.underlying 31 with | some (.struct _) | some (.array _ _) | none => False | _ => True; rw [Try.underlying31]; trivial), .inl rfl, rfl, rfl, fun h => by cases h⟩
def ti33 : TI := ⟨1, 8, .v .nilFunc, .other, false⟩
theorem ti33_ok : EntryOk Try.prog 33 ti33 := ⟨by kernel_rfl, (by show match Try.prog.underlying 33 with | some (.struct _) | some (.array _ _) | none => False | _ => True; rw [Try.underlying33]; trivial), .inl rfl, rfl, rfl, fun h => by cases h⟩
def ti34 : TI := ⟨1, 8, .v .nilFunc, .other, false⟩
theorem ti34_ok : EntryOk Try.prog 34 ti34 := ⟨by kernel_rfl, (by show match Try.prog.underlying 34 with | some (.struct _) | some (.array _ _) | none => False | _ => True; rw [Try.underlying34]; trivial), .inl rfl, rfl, rfl, fun h => by cases h⟩
def ti35 : TI := ⟨1, 8, .v .nilFunc, .other, false⟩
theorem ti35_ok : EntryOk Try.prog 35 ti35 := ⟨by kernel_rfl, (by show match Try.prog.underlying 35 with | some (.struct _) | some (.array _ _) | none => False | _ => True; rw [Try.underlying35]; trivial), .inl rfl, rfl, rfl, fun h => by cases h⟩
def ti36 : TI := ⟨1, 24, .v (.slice none 0 0), .slice 73, false⟩
theorem ti36_ok : EntryOk Try.prog 36 ti36 := ⟨by kernel_rfl, Try.underlying36, .inl rfl, rfl, rfl, fun h => by cases h⟩
def ti37 : TI := ⟨4, 80, .agg [.v (.int .i64 0), .v (.slice none 0 0), .v (.slice none 0 0), .v (.slice none 0 0)], .struct [(0, 3), (1, 26), (2, 26), (3, 36)], false⟩
theorem ti37_ok : EntryOk Try.prog 37 ti37 := ⟨by kernel_rfl, ⟨by kernel_rfl, by kernel_rfl, by kernel_rfl⟩, .inr ⟨_, rfl⟩, rfl, rfl, fun h => by cases h⟩
def ti38 : TI := ⟨4, 80, .agg [.v (.int .i64 0), .v (.slice none 0 0), .v (.slice none 0 0), .v (.slice none 0 0)], .struct [(0, 3), (1, 26), (2, 26), (3, 36)], false⟩
theorem ti38_ok : EntryOk Try.prog 38 ti38 := ⟨by kernel_rfl, ⟨by kernel_rfl, by kernel_rfl, by kernel_rfl⟩, .inr ⟨_, rfl⟩, rfl, rfl, fun h => by cases h⟩
def ti39 : TI := ⟨1, 8, .v .nilFunc, .other, false⟩
theorem ti39_ok : EntryOk Try.prog 39 ti39 := ⟨by kernel_rfl, (by show match Try.prog.underlying 39 with | some (.struct _) | some (.array _ _) | none => False | _ => True; rw [Try.underlying39]; trivial), .inl rfl, rfl, rfl, fun h => by cases h⟩
def ti41 : TI := ⟨1, 8, .v .nilFunc, .other, false⟩
theorem ti41_ok : EntryOk Try.prog 41 ti41 := ⟨by kernel_rfl, (by show match Try.prog.underlying 41 with | some (.struct _) | some (.array _ _) | none => False | _ => True; rw [Try.underlying41]; trivial), .inl rfl, rfl, rfl, fun h => by cases h⟩
def ti42 : TI := ⟨3, 32, .agg [.v (.int .i64 0), .v (.int .i64 0), .v (.string ByteArray.empty)], .struct [(0, 3), (1, 3), (2, 9)], true⟩
theorem ti42_ok : EntryOk Try.prog 42 ti42 := ⟨by kernel_rfl, ⟨by kernel_rfl, by kernel_rfl, by kernel_rfl⟩, .inr ⟨_, rfl⟩, rfl, rfl, fun _ => ⟨by kernel_rfl, by kernel_rfl, by kernel_rfl⟩⟩
def ti43 : TI := ⟨3, 32, .agg [.v (.int .i64 0), .v (.int .i64 0), .v (.string ByteArray.empty)], .struct [(0, 3), (1, 3), (2, 9)], true⟩
theorem ti43_ok : EntryOk Try.prog 43 ti43 := ⟨by kernel_rfl, ⟨by kernel_rfl, by kernel_rfl, by kernel_rfl⟩, .inr ⟨_, rfl⟩, rfl, rfl, fun _ => ⟨by kernel_rfl, by kernel_rfl, by kernel_rfl⟩⟩
def ti44 : TI := ⟨1, 8, .v .nilFunc, .other, false⟩
theorem ti44_ok : EntryOk Try.prog 44 ti44 := ⟨by kernel_rfl, (by show match Try.prog.underlying 44 with | some (.struct _) | some (.array _ _) | none => False | _ => True; rw [Try.underlying44]; trivial), .inl rfl, rfl, rfl, fun h => by cases h⟩
def ti45 : TI := ⟨1, 24, .v (.slice none 0 0), .slice 9, false⟩
theorem ti45_ok : EntryOk Try.prog 45 ti45 := ⟨by kernel_rfl, Try.underlying45, .inl rfl, rfl, rfl, fun h => by cases h⟩
def ti46 : TI := ⟨1, 8, .v .nilFunc, .other, false⟩
theorem ti46_ok : EntryOk Try.prog 46 ti46 := ⟨by kernel_rfl, (by show match Try.prog.underlying 46 with | some (.struct _) | some (.array _ _) | none => False | _ => True; rw [Try.underlying46]; trivial), .inl rfl, rfl, rfl, fun h => by cases h⟩
def ti47 : TI := ⟨1, 8, .v .nilFunc, .other, false⟩
theorem ti47_ok : EntryOk Try.prog 47 ti47 := ⟨by kernel_rfl, (by show match Try.prog.underlying 47 with | some (.struct _) | some (.array _ _) | none => False | _ => True; rw [Try.underlying47]; trivial), .inl rfl, rfl, rfl, fun h => by cases h⟩
def ti48 : TI := ⟨1, 8, .v .nilFunc, .other, false⟩
theorem ti48_ok : EntryOk Try.prog 48 ti48 := ⟨by kernel_rfl, (by show match Try.prog.underlying 48 with | some (.struct _) | some (.array _ _) | none => False | _ => True; rw [Try.underlying48]; trivial), .inl rfl, rfl, rfl, fun h => by cases h⟩
def ti49 : TI := ⟨1, 8, .v .nilFunc, .other, false⟩
theorem ti49_ok : EntryOk Try.prog 49 ti49 := ⟨by kernel_rfl, (by show match Try.prog.underlying 49 with | some (.struct _) | some (.array _ _) | none => False | _ => True; rw [Try.underlying49]; trivial), .inl rfl, rfl, rfl, fun h => by cases h⟩
def ti51 : TI := ⟨1, 8, .v .nilFunc, .other, false⟩
theorem ti51_ok : EntryOk Try.prog 51 ti51 := ⟨by kernel_rfl, (by show match Try.prog.underlying 51 with | some (.struct _) | some (.array _ _) | none => False | _ => True; rw [Try.underlying51]; trivial), .inl rfl, rfl, rfl, fun h => by cases h⟩
def ti52 : TI := ⟨1, 8, .v .nilFunc, .other, false⟩
theorem ti52_ok : EntryOk Try.prog 52 ti52 := ⟨by kernel_rfl, (by show match Try.prog.underlying 52 with | some (.struct _) | some (.array _ _) | none => False | _ => True; rw [Try.underlying52]; trivial), .inl rfl, rfl, rfl, fun h => by cases h⟩
def ti53 : TI := ⟨1, 8, .v (.map none), .map 9 3, false⟩
theorem ti53_ok : EntryOk Try.prog 53 ti53 := ⟨by kernel_rfl, Try.underlying53, .inl rfl, rfl, rfl, fun h => by cases h⟩
def ti54 : TI := ⟨4, 48, .agg [.v (.int .i64 0), .v (.int .i64 0), .v (.slice none 0 0), .v (.map none)], .struct [(0, 3), (1, 3), (2, 26), (3, 53)], false⟩
theorem ti54_ok : EntryOk Try.prog 54 ti54 := ⟨by kernel_rfl, ⟨by kernel_rfl, by kernel_rfl, by kernel_rfl⟩, .inr ⟨_, rfl⟩, rfl, rfl, fun h => by cases h⟩
def ti55 : TI := ⟨4, 48, .agg [.v (.int .i64 0), .v (.int .i64 0), .v (.slice none 0 0), .v (.map none)], .struct [(0, 3), (1, 3), (2, 26), (3, 53)], false⟩
theorem ti55_ok : EntryOk Try.prog 55 ti55 := ⟨by kernel_rfl, ⟨by kernel_rfl, by kernel_rfl, by kernel_rfl⟩, .inr ⟨_, rfl⟩, rfl, rfl, fun h => by cases h⟩
def ti56 : TI := ⟨1, 8, .v .nilFunc, .other, false⟩
theorem ti56_ok : EntryOk Try.prog 56 ti56 := ⟨by kernel_rfl, (by show match Try.prog.underlying 56 with | some (.struct _) | some (.array _ _) | none => False | _ => True; rw [Try.underlying56]; trivial), .inl rfl, rfl, rfl, fun h => by cases h⟩
def ti57 : TI := ⟨1, 8, .v .nilFunc, .other, false⟩
theorem ti57_ok : EntryOk Try.prog 57 ti57 := ⟨by kernel_rfl, (by show match Try.prog.underlying 57 with | some (.struct _) | some (.array _ _) | none => False | _ => True; rw [Try.underlying57]; trivial), .inl rfl, rfl, rfl, fun h => by cases h⟩
def ti58 : TI := ⟨1, 8, .v .nilFunc, .other, false⟩
theorem ti58_ok : EntryOk Try.prog 58 ti58 := ⟨by kernel_rfl, (by show match Try.prog.underlying 58 with | some (.struct _) | some (.array _ _) | none => False | _ => True; rw [Try.underlying58]; trivial), .inl rfl, rfl, rfl, fun h => by cases h⟩
def ti60 : TI := ⟨1, 8, .v .nilFunc, .other, false⟩
theorem ti60_ok : EntryOk Try.prog 60 ti60 := ⟨by kernel_rfl, (by show match Try.prog.underlying 60 with | some (.struct _) | some (.array _ _) | none => False | _ => True; rw [Try.underlying60]; trivial), .inl rfl, rfl, rfl, fun h => by cases h⟩
def ti62 : TI := ⟨1, 8, .v .nilFunc, .other, false⟩
theorem ti62_ok : EntryOk Try.prog 62 ti62 := ⟨by kernel_rfl, (by show match Try.prog.underlying 62 with | some (.struct _) | some (.array _ _) | none => False | _ => True; rw [Try.underlying62]; trivial), .inl rfl, rfl, rfl, fun h => by cases h⟩
def ti64 : TI := ⟨1, 8, .v .nilFunc, .other, false⟩
theorem ti64_ok : EntryOk Try.prog 64 ti64 := ⟨by kernel_rfl, (by show match Try.prog.underlying 64 with | some (.struct _) | some (.array _ _) | none => False | _ => True; rw [Try.underlying64]; trivial), .inl rfl, rfl, rfl, fun h => by cases h⟩
def ti65 : TI := ⟨1, 8, .v .nilFunc, .other, false⟩
theorem ti65_ok : EntryOk Try.prog 65 ti65 := ⟨by kernel_rfl, (by show match Try.prog.underlying 65 with | some (.struct _) | some (.array _ _) | none => False | _ => True; rw [Try.underlying65]; trivial), .inl rfl, rfl, rfl, fun h => by cases h⟩
def ti66 : TI := ⟨1, 8, .v .nilFunc, .other, false⟩
theorem ti66_ok : EntryOk Try.prog 66 ti66 := ⟨by kernel_rfl, (by show match Try.prog.underlying 66 with | some (.struct _) | some (.array _ _) | none => False | _ => True; rw [Try.underlying66]; trivial), .inl rfl, rfl, rfl, fun h => by cases h⟩
def ti67 : TI := ⟨1, 8, .v .nilFunc, .other, false⟩
theorem ti67_ok : EntryOk Try.prog 67 ti67 := ⟨by kernel_rfl, (by show match Try.prog.underlying 67 with | some (.struct _) | some (.array _ _) | none => False | _ => True; rw [Try.underlying67]; trivial), .inl rfl, rfl, rfl, fun h => by cases h⟩
def ti68 : TI := ⟨1, 8, .v .nilFunc, .other, false⟩
theorem ti68_ok : EntryOk Try.prog 68 ti68 := ⟨by kernel_rfl, (by show match Try.prog.underlying 68 with | some (.struct _) | some (.array _ _) | none => False | _ => True; rw [Try.underlying68]; trivial), .inl rfl, rfl, rfl, fun h => by cases h⟩
def ti69 : TI := ⟨1, 8, .v .nilFunc, .other, false⟩
theorem ti69_ok : EntryOk Try.prog 69 ti69 := ⟨by kernel_rfl, (by show match Try.prog.underlying 69 with | some (.struct _) | some (.array _ _) | none => False | _ => True; rw [Try.underlying69]; trivial), .inl rfl, rfl, rfl, fun h => by cases h⟩
def ti70 : TI := ⟨1, 8, .v .nilFunc, .other, false⟩
theorem ti70_ok : EntryOk Try.prog 70 ti70 := ⟨by kernel_rfl, (by show match Try.prog.underlying 70 with | some (.struct _) | some (.array _ _) | none => False | _ => True; rw [Try.underlying70]; trivial), .inl rfl, rfl, rfl, fun h => by cases h⟩
def ti71 : TI := ⟨1, 8, .v .nilFunc, .other, false⟩
theorem ti71_ok : EntryOk Try.prog 71 ti71 := ⟨by kernel_rfl, (by show match Try.prog.underlying 71 with | some (.struct _) | some (.array _ _) | none => False | _ => True; rw [Try.underlying71]; trivial), .inl rfl, rfl, rfl, fun h => by cases h⟩
def ti72 : TI := ⟨2, 24, .agg [.v (.string ByteArray.empty), .v (.int .i64 0)], .struct [(0, 9), (1, 3)], true⟩
theorem ti72_ok : EntryOk Try.prog 72 ti72 := ⟨by kernel_rfl, ⟨by kernel_rfl, by kernel_rfl, by kernel_rfl⟩, .inr ⟨_, rfl⟩, rfl, rfl, fun _ => ⟨by kernel_rfl, by kernel_rfl, by kernel_rfl⟩⟩
def ti73 : TI := ⟨2, 24, .agg [.v (.string ByteArray.empty), .v (.int .i64 0)], .struct [(0, 9), (1, 3)], true⟩
theorem ti73_ok : EntryOk Try.prog 73 ti73 := ⟨by kernel_rfl, ⟨by kernel_rfl, by kernel_rfl, by kernel_rfl⟩, .inr ⟨_, rfl⟩, rfl, rfl, fun _ => ⟨by kernel_rfl, by kernel_rfl, by kernel_rfl⟩⟩
def ti75 : TI := ⟨1, 8, .v .nilFunc, .other, false⟩
theorem ti75_ok : EntryOk Try.prog 75 ti75 := ⟨by kernel_rfl, (by show match Try.prog.underlying 75 with | some (.struct _) | some (.array _ _) | none => False | _ => True; rw [Try.underlying75]; trivial), .inl rfl, rfl, rfl, fun h => by cases h⟩
def ti76 : TI := ⟨1, 8, .v .nilFunc, .other, false⟩
theorem ti76_ok : EntryOk Try.prog 76 ti76 := ⟨by kernel_rfl, (by show match Try.prog.underlying 76 with | some (.struct _) | some (.array _ _) | none => False | _ => True; rw [Try.underlying76]; trivial), .inl rfl, rfl, rfl, fun h => by cases h⟩
def ti77 : TI := ⟨1, 8, .v .nilFunc, .other, false⟩
theorem ti77_ok : EntryOk Try.prog 77 ti77 := ⟨by kernel_rfl, (by show match Try.prog.underlying 77 with | some (.struct _) | some (.array _ _) | none => False | _ => True; rw [Try.underlying77]; trivial), .inl rfl, rfl, rfl, fun h => by cases h⟩
def ti78 : TI := ⟨1, 8, .v .nilFunc, .other, false⟩
theorem ti78_ok : EntryOk Try.prog 78 ti78 := ⟨by kernel_rfl, (by show match Try.prog.underlying 78 with | some (.struct _) | some (.array _ _) | none => False | _ => True; rw [Try.underlying78]; trivial), .inl rfl, rfl, rfl, fun h => by cases h⟩
def ti79 : TI := ⟨1, 8, .v .nilFunc, .other, false⟩
theorem ti79_ok : EntryOk Try.prog 79 ti79 := ⟨by kernel_rfl, (by show match Try.prog.underlying 79 with | some (.struct _) | some (.array _ _) | none => False | _ => True; rw [Try.underlying79]; trivial), .inl rfl, rfl, rfl, fun h => by cases h⟩
def ti80 : TI := ⟨1, 8, .v .nilFunc, .other, false⟩
theorem ti80_ok : EntryOk Try.prog 80 ti80 := ⟨by kernel_rfl, (by show match Try.prog.underlying 80 with | some (.struct _) | some (.array _ _) | none => False | _ => True; rw [Try.underlying80]; trivial), .inl rfl, rfl, rfl, fun h => by cases h⟩
def ti81 : TI := ⟨1, 8, .v .nilFunc, .other, false⟩
theorem ti81_ok : EntryOk Try.prog 81 ti81 := ⟨by kernel_rfl, (by show match Try.prog.underlying 81 with | some (.struct _) | some (.array _ _) | none => False | _ => True; rw [Try.underlying81]; trivial), .inl rfl, rfl, rfl, fun h => by cases h⟩
def ti82 : TI := ⟨1, 8, .v .nilFunc, .other, false⟩
theorem ti82_ok : EntryOk Try.prog 82 ti82 := ⟨by kernel_rfl, (by show match Try.prog.underlying 82 with | some (.struct _) | some (.array _ _) | none => False | _ => True; rw [Try.underlying82]; trivial), .inl rfl, rfl, rfl, fun h => by cases h⟩
def ti83 : TI := ⟨1, 8, .v .nilFunc, .other, false⟩
theorem ti83_ok : EntryOk Try.prog 83 ti83 := ⟨by kernel_rfl, (by show match Try.prog.underlying 83 with | some (.struct _) | some (.array _ _) | none => False | _ => True; rw [Try.underlying83]; trivial), .inl rfl, rfl, rfl, fun h => by cases h⟩
def ti84 : TI := ⟨1, 8, .v (.int .u64 0), .int .u64, false⟩
theorem ti84_ok : EntryOk Try.prog 84 ti84 := ⟨by kernel_rfl, Try.underlying84, .inl rfl, rfl, rfl, fun h => by cases h⟩
def ti85 : TI := ⟨1, 8, .v .nilFunc, .other, false⟩
theorem ti85_ok : EntryOk Try.prog 85 ti85 := ⟨by kernel_rfl, (by show match Try.prog.underlying 85 with | some (.struct _) | some (.array _ _) | none => False | _ => True; rw [Try.underlying85]; trivial), .inl rfl, rfl, rfl, fun h => by cases h⟩
def ti86 : TI := ⟨1, 8, .v (.int .i64 0), .int .i64, false⟩
theorem ti86_ok : EntryOk Try.prog 86 ti86 := ⟨by kernel_rfl, Try.underlying86, .inl rfl, rfl, rfl, fun h => by cases h⟩
def ti88 : TI := ⟨1, 8, .v .nilFunc, .other, false⟩
theorem ti88_ok : EntryOk Try.prog 88 ti88 := ⟨by kernel_rfl, (by show match Try.prog.underlying 88 with | some (.struct _) | some (.array _ _) | none => False | _ => True; rw [Try.underlying88]; trivial), .inl rfl, rfl, rfl, fun h => by cases h⟩
def ti89 : TI := ⟨1, 8, .v .nilFunc, .other, false⟩
theorem ti89_ok : EntryOk Try.prog 89 ti89 := ⟨by kernel_rfl, (by show match Try.prog.underlying 89 with | some (.struct _) | some (.array _ _) | none => False | _ => True; rw [Try.underlying89]; trivial), .inl rfl, rfl, rfl, fun h => by cases h⟩
def ti90 : TI := ⟨1, 8, .v .nilFunc, .other, false⟩
theorem ti90_ok : EntryOk Try.prog 90 ti90 := ⟨by kernel_rfl, (by show match Try.prog.underlying 90 with | some (.struct _) | some (.array _ _) | none => False | _ => True; rw [Try.underlying90]; trivial), .inl rfl, rfl, rfl, fun h => by cases h⟩
def ti91 : TI := ⟨1, 8, .v .nilFunc, .other, false⟩
theorem ti91_ok : EntryOk Try.prog 91 ti91 := ⟨by kernel_rfl, (by show match Try.prog.underlying 91 with | some (.struct _) | some (.array _ _) | none => False | _ => True; rw [Try.underlying91]; trivial), .inl rfl, rfl, rfl, fun h => by cases h⟩
def ti92 : TI := ⟨1, 8, .v .nilFunc, .other, false⟩
theorem ti92_ok : EntryOk Try.prog 92 ti92 := ⟨by kernel_rfl, (by show match Try.prog.underlying 92 with | some (.struct _) | some (.array _ _) | none => False | _ => True; rw [Try.underlying92]; trivial), .inl rfl, rfl, rfl, fun h => by cases h⟩
def ti93 : TI := ⟨1, 4, .v (.int .u32 0), .int .u32, false⟩
theorem ti93_ok : EntryOk Try.prog 93 ti93 := ⟨by kernel_rfl, Try.underlying93, .inl rfl, rfl, rfl, fun h => by cases h⟩
def ti94 : TI := ⟨1, 8, .v .nilFunc, .other, false⟩
theorem ti94_ok : EntryOk Try.prog 94 ti94 := ⟨by kernel_rfl, (by show match Try.prog.underlying 94 with | some (.struct _) | some (.array _ _) | none => False | _ => True; rw [Try.underlying94]; trivial), .inl rfl, rfl, rfl, fun h => by cases h⟩
def ti95 : TI := ⟨1, 8, .v (.int .u64 0), .int .u64, false⟩
theorem ti95_ok : EntryOk Try.prog 95 ti95 := ⟨by kernel_rfl, Try.underlying95, .inl rfl, rfl, rfl, fun h => by cases h⟩
def ti96 : TI := ⟨1, 8, .v (.int .u64 0), .int .u64, false⟩
theorem ti96_ok : EntryOk Try.prog 96 ti96 := ⟨by kernel_rfl, Try.underlying96, .inl rfl, rfl, rfl, fun h => by cases h⟩
def ti97 : TI := ⟨1, 8, .v .nilFunc, .other, false⟩
theorem ti97_ok : EntryOk Try.prog 97 ti97 := ⟨by kernel_rfl, (by show match Try.prog.underlying 97 with | some (.struct _) | some (.array _ _) | none => False | _ => True; rw [Try.underlying97]; trivial), .inl rfl, rfl, rfl, fun h => by cases h⟩
def ti98 : TI := ⟨1, 8, .v .nilFunc, .other, false⟩
theorem ti98_ok : EntryOk Try.prog 98 ti98 := ⟨by kernel_rfl, (by show match Try.prog.underlying 98 with | some (.struct _) | some (.array _ _) | none => False | _ => True; rw [Try.underlying98]; trivial), .inl rfl, rfl, rfl, fun h => by cases h⟩
def ti99 : TI := ⟨1, 8, .v .nilFunc, .other, false⟩
theorem ti99_ok : EntryOk Try.prog 99 ti99 := ⟨by kernel_rfl, (by show match Try.prog.underlying 99 with | some (.struct _) | some (.array _ _) | none => False | _ => True; rw [Try.underlying99]; trivial), .inl rfl, rfl, rfl, fun h => by cases h⟩
def ti100 : TI := ⟨1, 8, .v (.pointer none), .ptr 3, false⟩
theorem ti100_ok : EntryOk Try.prog 100 ti100 := ⟨by kernel_rfl, Try.underlying100, .inl rfl, rfl, rfl, fun h => by cases h⟩
def ti101 : TI := ⟨1, 8, .v .nilFunc, .other, false⟩
theorem ti101_ok : EntryOk Try.prog 101 ti101 := ⟨by kernel_rfl, (by show match Try.prog.underlying 101 with | some (.struct _) | some (.array _ _) | none => False | _ => True; rw [Try.underlying101]; trivial), .inl rfl, rfl, rfl, fun h => by cases h⟩
def ti102 : TI := ⟨1, 8, .v (.pointer none), .ptr 96, false⟩
theorem ti102_ok : EntryOk Try.prog 102 ti102 := ⟨by kernel_rfl, Try.underlying102, .inl rfl, rfl, rfl, fun h => by cases h⟩
def ti104 : TI := ⟨1, 8, .v .nilFunc, .other, false⟩
theorem ti104_ok : EntryOk Try.prog 104 ti104 := ⟨by kernel_rfl, (by show match Try.prog.underlying 104 with | some (.struct _) | some (.array _ _) | none => False | _ => True; rw [Try.underlying104]; trivial), .inl rfl, rfl, rfl, fun h => by cases h⟩
def ti105 : TI := ⟨1, 8, .v .nilFunc, .other, false⟩
theorem ti105_ok : EntryOk Try.prog 105 ti105 := ⟨by kernel_rfl, (by show match Try.prog.underlying 105 with | some (.struct _) | some (.array _ _) | none => False | _ => True; rw [Try.underlying105]; trivial), .inl rfl, rfl, rfl, fun h => by cases h⟩
def ti106 : TI := ⟨4, 40, .agg [.v (.pointer none), .v (.pointer none), .v (.pointer none), .v (.string ByteArray.empty)], .struct [(0, 17), (1, 17), (2, 17), (3, 9)], false⟩
theorem ti106_ok : EntryOk Try.prog 106 ti106 := ⟨by kernel_rfl, ⟨by kernel_rfl, by kernel_rfl, by kernel_rfl⟩, .inr ⟨_, rfl⟩, rfl, rfl, fun h => by cases h⟩
def ti107 : TI := ⟨4, 40, .agg [.v (.pointer none), .v (.pointer none), .v (.pointer none), .v (.string ByteArray.empty)], .struct [(0, 17), (1, 17), (2, 17), (3, 9)], false⟩
theorem ti107_ok : EntryOk Try.prog 107 ti107 := ⟨by kernel_rfl, ⟨by kernel_rfl, by kernel_rfl, by kernel_rfl⟩, .inr ⟨_, rfl⟩, rfl, rfl, fun h => by cases h⟩
def ti108 : TI := ⟨0, 0, .agg [], .arr 0 16, false⟩
theorem ti108_ok : EntryOk Try.prog 108 ti108 := ⟨by kernel_rfl, Try.underlying108, .inr ⟨_, rfl⟩, rfl, rfl, fun h => by cases h⟩
def ti109 : TI := ⟨0, 0, .agg [], .struct [(0, 108)], false⟩
theorem ti109_ok : EntryOk Try.prog 109 ti109 := ⟨by kernel_rfl, ⟨by kernel_rfl, by kernel_rfl, by kernel_rfl⟩, .inr ⟨_, rfl⟩, rfl, rfl, fun h => by cases h⟩
def ti110 : TI := ⟨0, 0, .agg [], .struct [(0, 108)], false⟩
theorem ti110_ok : EntryOk Try.prog 110 ti110 := ⟨by kernel_rfl, ⟨by kernel_rfl, by kernel_rfl, by kernel_rfl⟩, .inr ⟨_, rfl⟩, rfl, rfl, fun h => by cases h⟩
def ti111 : TI := ⟨1, 8, .v .nilFunc, .other, false⟩
theorem ti111_ok : EntryOk Try.prog 111 ti111 := ⟨by kernel_rfl, (by show match Try.prog.underlying 111 with | some (.struct _) | some (.array _ _) | none => False | _ => True; rw [Try.underlying111]; trivial), .inl rfl, rfl, rfl, fun h => by cases h⟩
def ti112 : TI := ⟨1, 1, .v (.int .u8 0), .int .u8, false⟩
theorem ti112_ok : EntryOk Try.prog 112 ti112 := ⟨by kernel_rfl, Try.underlying112, .inl rfl, rfl, rfl, fun h => by cases h⟩
def ti113 : TI := ⟨1, 1, .v (.int .u8 0), .int .u8, false⟩
theorem ti113_ok : EntryOk Try.prog 113 ti113 := ⟨by kernel_rfl, Try.underlying113, .inl rfl, rfl, rfl, fun h => by cases h⟩
def ti114 : TI := ⟨1, 8, .v .nilFunc, .other, false⟩
theorem ti114_ok : EntryOk Try.prog 114 ti114 := ⟨by kernel_rfl, (by show match Try.prog.underlying 114 with | some (.struct _) | some (.array _ _) | none => False | _ => True; rw [Try.underlying114]; trivial), .inl rfl, rfl, rfl, fun h => by cases h⟩
def ti115 : TI := ⟨1, 8, .v (.pointer none), .ptr 5, false⟩
theorem ti115_ok : EntryOk Try.prog 115 ti115 := ⟨by kernel_rfl, Try.underlying115, .inl rfl, rfl, rfl, fun h => by cases h⟩
def ti116 : TI := ⟨1, 4, .v (.int .i32 0), .int .i32, false⟩
theorem ti116_ok : EntryOk Try.prog 116 ti116 := ⟨by kernel_rfl, Try.underlying116, .inl rfl, rfl, rfl, fun h => by cases h⟩
def ti117 : TI := ⟨1, 4, .v (.int .i32 0), .int .i32, false⟩
theorem ti117_ok : EntryOk Try.prog 117 ti117 := ⟨by kernel_rfl, Try.underlying117, .inl rfl, rfl, rfl, fun h => by cases h⟩
def ti118 : TI := ⟨11, 48, .agg [.v (.int .u64 0), .v (.int .u64 0), .v (.int .u32 0), .v (.int .u8 0), .v (.int .u8 0), .v (.int .u8 0), .v (.int .u8 0), .v .nilFunc, .v (.pointer none), .v (.int .i32 0), .v (.int .i32 0)], .struct [(0, 12), (1, 12), (2, 93), (3, 112), (4, 5), (5, 5), (6, 113), (7, 114), (8, 115), (9, 116), (10, 117)], false⟩
theorem ti118_ok : EntryOk Try.prog 118 ti118 := ⟨by kernel_rfl, ⟨by kernel_rfl, by kernel_rfl, by kernel_rfl⟩, .inr ⟨_, rfl⟩, rfl, rfl, fun h => by cases h⟩
def ti119 : TI := ⟨11, 48, .agg [.v (.int .u64 0), .v (.int .u64 0), .v (.int .u32 0), .v (.int .u8 0), .v (.int .u8 0), .v (.int .u8 0), .v (.int .u8 0), .v .nilFunc, .v (.pointer none), .v (.int .i32 0), .v (.int .i32 0)], .struct [(0, 12), (1, 12), (2, 93), (3, 112), (4, 5), (5, 5), (6, 113), (7, 114), (8, 115), (9, 116), (10, 117)], false⟩
theorem ti119_ok : EntryOk Try.prog 119 ti119 := ⟨by kernel_rfl, ⟨by kernel_rfl, by kernel_rfl, by kernel_rfl⟩, .inr ⟨_, rfl⟩, rfl, rfl, fun h => by cases h⟩
def ti120 : TI := ⟨1, 8, .v (.pointer none), .uptr, false⟩
theorem ti120_ok : EntryOk Try.prog 120 ti120 := ⟨by kernel_rfl, Try.underlying120, .inl rfl, rfl, rfl, fun h => by cases h⟩
def tab : Tab := [(1, ti1), (2, ti2), (3, ti3), (4, ti4), (5, ti5), (6, ti6), (7, ti7), (8, ti8), (9, ti9), (10, ti10), (11, ti11), (12, ti12), (13, ti13), (14, ti14), (15, ti15), (16, ti16), (17, ti17), (18, ti18), (19, ti19), (20, ti20), (21, ti21), (22, ti22), (23, ti23), (24, ti24), (25, ti25), (26, ti26), (27, ti27), (28, ti28), (29, ti29), (30, ti30), (31, ti31), (33, ti33), (34, ti34), (35, ti35), (36, ti36), (37, ti37), (38, ti38), (39, ti39), (41, ti41), (42, ti42), (43, ti43), (44, ti44), (45, ti45), (46, ti46), (47, ti47), (48, ti48), (49, ti49), (51, ti51), (52, ti52), (53, ti53), (54, ti54), (55, ti55), (56, ti56), (57, ti57), (58, ti58), (60, ti60), (62, ti62), (64, ti64), (65, ti65), (66, ti66), (67, ti67), (68, ti68), (69, ti69), (70, ti70), (71, ti71), (72, ti72), (73, ti73), (75, ti75), (76, ti76), (77, ti77), (78, ti78), (79, ti79), (80, ti80), (81, ti81), (82, ti82), (83, ti83), (84, ti84), (85, ti85), (86, ti86), (88, ti88), (89, ti89), (90, ti90), (91, ti91), (92, ti92), (93, ti93), (94, ti94), (95, ti95), (96, ti96), (97, ti97), (98, ti98), (99, ti99), (100, ti100), (101, ti101), (102, ti102), (104, ti104), (105, ti105), (106, ti106), (107, ti107), (108, ti108), (109, ti109), (110, ti110), (111, ti111), (112, ti112), (113, ti113), (114, ti114), (115, ti115), (116, ti116), (117, ti117), (118, ti118), (119, ti119), (120, ti120)]
theorem tab_ok : TabOk Try.prog tab := ⟨ti1_ok, ti2_ok, ti3_ok, ti4_ok, ti5_ok, ti6_ok, ti7_ok, ti8_ok, ti9_ok, ti10_ok, ti11_ok, ti12_ok, ti13_ok, ti14_ok, ti15_ok, ti16_ok, ti17_ok, ti18_ok, ti19_ok, ti20_ok, ti21_ok, ti22_ok, ti23_ok, ti24_ok, ti25_ok, ti26_ok, ti27_ok, ti28_ok, ti29_ok, ti30_ok, ti31_ok, ti33_ok, ti34_ok, ti35_ok, ti36_ok, ti37_ok, ti38_ok, ti39_ok, ti41_ok, ti42_ok, ti43_ok, ti44_ok, ti45_ok, ti46_ok, ti47_ok, ti48_ok, ti49_ok, ti51_ok, ti52_ok, ti53_ok, ti54_ok, ti55_ok, ti56_ok, ti57_ok, ti58_ok, ti60_ok, ti62_ok, ti64_ok, ti65_ok, ti66_ok, ti67_ok, ti68_ok, ti69_ok, ti70_ok, ti71_ok, ti72_ok, ti73_ok, ti75_ok, ti76_ok, ti77_ok, ti78_ok, ti79_ok, ti80_ok, ti81_ok, ti82_ok, ti83_ok, ti84_ok, ti85_ok, ti86_ok, ti88_ok, ti89_ok, ti90_ok, ti91_ok, ti92_ok, ti93_ok, ti94_ok, ti95_ok, ti96_ok, ti97_ok, ti98_ok, ti99_ok, ti100_ok, ti101_ok, ti102_ok, ti104_ok, ti105_ok, ti106_ok, ti107_ok, ti108_ok, ti109_ok, ti110_ok, ti111_ok, ti112_ok, ti113_ok, ti114_ok, ti115_ok, ti116_ok, ti117_ok, ti118_ok, ti119_ok, ti120_ok, trivial⟩
end Go.Proofs.Ytkjnkepdhbpnbaa
