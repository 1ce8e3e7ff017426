/- The types of the program, for the engine. Laid by a program of mine. -/
import Derived.Test.YtkjnkepdhbpnbaaProg
import Derived.Test.YtkjnkepdhbpnbaaEngG
namespace Go.Proofs.Ytkjnkepdhbpnbaa
open Go.Eng
set_option maxRecDepth 100000
def ti2 : TI := ⟨1, 8, .v (.int .i64 0), .int .i64, false⟩
theorem ti2_ok : EntryOk Try.prog 2 ti2 := ⟨by kernel_rfl, Try.underlying2, .inl rfl, rfl, rfl, fun h => by cases h⟩
def ti3 : TI := ⟨1, 8, .v (.int .i64 0), .int .i64, false⟩
theorem ti3_ok : EntryOk Try.prog 3 ti3 := ⟨by kernel_rfl, Try.underlying3, .inl rfl, rfl, rfl, fun h => by cases h⟩
def ti4 : TI := ⟨1, 1, .v (.bool false), .bool, false⟩
theorem ti4_ok : EntryOk Try.prog 4 ti4 := ⟨by kernel_rfl, Try.underlying4, .inl rfl, rfl, rfl, fun h => by cases h⟩
def ti5 : TI := ⟨1, 1, .v (.int .u8 0), .int .u8, false⟩
theorem ti5_ok : EntryOk Try.prog 5 ti5 := ⟨by kernel_rfl, Try.underlying5, .inl rfl, rfl, rfl, fun h => by cases h⟩
def ti6 : TI := ⟨1, 1, .v (.int .u8 0), .int .u8, false⟩
theorem ti6_ok : EntryOk Try.prog 6 ti6 := ⟨by kernel_rfl, Try.underlying6, .inl rfl, rfl, rfl, fun h => by cases h⟩
def ti7 : TI := ⟨4, 24, .agg [.v (.int .i64 0), .v (.int .i64 0), .v (.bool false), .v (.int .u8 0)], .struct [(0, 2), (1, 3), (2, 4), (3, 6)], false⟩
theorem ti7_ok : EntryOk Try.prog 7 ti7 := ⟨by kernel_rfl, ⟨by kernel_rfl, by kernel_rfl, by kernel_rfl⟩, .inr ⟨_, rfl⟩, rfl, rfl, fun h => by cases h⟩
def ti8 : TI := ⟨4, 24, .agg [.v (.int .i64 0), .v (.int .i64 0), .v (.bool false), .v (.int .u8 0)], .struct [(0, 2), (1, 3), (2, 4), (3, 6)], false⟩
theorem ti8_ok : EntryOk Try.prog 8 ti8 := ⟨by kernel_rfl, ⟨by kernel_rfl, by kernel_rfl, by kernel_rfl⟩, .inr ⟨_, rfl⟩, rfl, rfl, fun h => by cases h⟩
def ti9 : TI := ⟨1, 16, .v (.string ByteArray.empty), .str, false⟩
theorem ti9_ok : EntryOk Try.prog 9 ti9 := ⟨by kernel_rfl, Try.underlying9, .inl rfl, rfl, rfl, fun h => by cases h⟩
def ti10 : TI := ⟨1, 16, .v (.string ByteArray.empty), .str, false⟩
theorem ti10_ok : EntryOk Try.prog 10 ti10 := ⟨by kernel_rfl, Try.underlying10, .inl rfl, rfl, rfl, fun h => by cases h⟩
def ti11 : TI := ⟨1, 16, .v (.string ByteArray.empty), .str, false⟩
theorem ti11_ok : EntryOk Try.prog 11 ti11 := ⟨by kernel_rfl, Try.underlying11, .inl rfl, rfl, rfl, fun h => by cases h⟩
def ti12 : TI := ⟨1, 8, .v (.int .u64 0), .int .u64, false⟩
theorem ti12_ok : EntryOk Try.prog 12 ti12 := ⟨by kernel_rfl, Try.underlying12, .inl rfl, rfl, rfl, fun h => by cases h⟩
def ti13 : TI := ⟨2, 24, .agg [.v (.string ByteArray.empty), .v (.int .u64 0)], .struct [(0, 9), (1, 12)], false⟩
theorem ti13_ok : EntryOk Try.prog 13 ti13 := ⟨by kernel_rfl, ⟨by kernel_rfl, by kernel_rfl, by kernel_rfl⟩, .inr ⟨_, rfl⟩, rfl, rfl, fun h => by cases h⟩
def ti14 : TI := ⟨2, 24, .agg [.v (.string ByteArray.empty), .v (.int .u64 0)], .struct [(0, 9), (1, 12)], false⟩
theorem ti14_ok : EntryOk Try.prog 14 ti14 := ⟨by kernel_rfl, ⟨by kernel_rfl, by kernel_rfl, by kernel_rfl⟩, .inr ⟨_, rfl⟩, rfl, rfl, fun h => by cases h⟩
def ti15 : TI := ⟨1, 8, .v (.pointer none), .ptr 107, false⟩
theorem ti15_ok : EntryOk Try.prog 15 ti15 := ⟨by kernel_rfl, Try.underlying15, .inl rfl, rfl, rfl, fun h => by cases h⟩
def ti16 : TI := ⟨1, 8, .v (.pointer none), .ptr 110, false⟩
theorem ti16_ok : EntryOk Try.prog 16 ti16 := ⟨by kernel_rfl, Try.underlying16, .inl rfl, rfl, rfl, fun h => by cases h⟩
def ti17 : TI := ⟨1, 8, .v (.pointer none), .ptr 119, false⟩
theorem ti17_ok : EntryOk Try.prog 17 ti17 := ⟨by kernel_rfl, Try.underlying17, .inl rfl, rfl, rfl, fun h => by cases h⟩
def ti18 : TI := ⟨1, 8, .agg [.v (.pointer none)], .struct [(0, 17)], false⟩
theorem ti18_ok : EntryOk Try.prog 18 ti18 := ⟨by kernel_rfl, ⟨by kernel_rfl, by kernel_rfl, by kernel_rfl⟩, .inr ⟨_, rfl⟩, rfl, rfl, fun h => by cases h⟩
def ti19 : TI := ⟨1, 8, .agg [.v (.pointer none)], .struct [(0, 17)], false⟩
theorem ti19_ok : EntryOk Try.prog 19 ti19 := ⟨by kernel_rfl, ⟨by kernel_rfl, by kernel_rfl, by kernel_rfl⟩, .inr ⟨_, rfl⟩, rfl, rfl, fun h => by cases h⟩
def ti20 : TI := ⟨1, 16, .v .nilIface, .iface, false⟩
theorem ti20_ok : EntryOk Try.prog 20 ti20 := ⟨by kernel_rfl, (by show match Try.prog.underlying 20 with | some (.interface _) => True | _ => False; rw [Try.underlying20]; trivial), .inl rfl, rfl, rfl, fun h => by cases h⟩
def ti21 : TI := ⟨1, 4, .v (.int .i32 0), .int .i32, false⟩
theorem ti21_ok : EntryOk Try.prog 21 ti21 := ⟨by kernel_rfl, Try.underlying21, .inl rfl, rfl, rfl, fun h => by cases h⟩
def ti22 : TI := ⟨1, 24, .v (.slice none 0 0), .slice 43, false⟩
theorem ti22_ok : EntryOk Try.prog 22 ti22 := ⟨by kernel_rfl, Try.underlying22, .inl rfl, rfl, rfl, fun h => by cases h⟩
def ti23 : TI := ⟨1, 8, .v (.pointer none), .ptr 55, false⟩
theorem ti23_ok : EntryOk Try.prog 23 ti23 := ⟨by kernel_rfl, Try.underlying23, .inl rfl, rfl, rfl, fun h => by cases h⟩
def ti26 : TI := ⟨1, 24, .v (.slice none 0 0), .slice 3, false⟩
theorem ti26_ok : EntryOk Try.prog 26 ti26 := ⟨by kernel_rfl, Try.underlying26, .inl rfl, rfl, rfl, fun h => by cases h⟩
def ti28 : TI := ⟨1, 8, .v (.int .i64 0), .int .i64, false⟩
theorem ti28_ok : EntryOk Try.prog 28 ti28 := ⟨by kernel_rfl, Try.underlying28, .inl rfl, rfl, rfl, fun h => by cases h⟩
def ti36 : TI := ⟨1, 24, .v (.slice none 0 0), .slice 73, false⟩
theorem ti36_ok : EntryOk Try.prog 36 ti36 := ⟨by kernel_rfl, Try.underlying36, .inl rfl, rfl, rfl, fun h => by cases h⟩
def ti37 : TI := ⟨4, 80, .agg [.v (.int .i64 0), .v (.slice none 0 0), .v (.slice none 0 0), .v (.slice none 0 0)], .struct [(0, 3), (1, 26), (2, 26), (3, 36)], false⟩
theorem ti37_ok : EntryOk Try.prog 37 ti37 := ⟨by kernel_rfl, ⟨by kernel_rfl, by kernel_rfl, by kernel_rfl⟩, .inr ⟨_, rfl⟩, rfl, rfl, fun h => by cases h⟩
def ti38 : TI := ⟨4, 80, .agg [.v (.int .i64 0), .v (.slice none 0 0), .v (.slice none 0 0), .v (.slice none 0 0)], .struct [(0, 3), (1, 26), (2, 26), (3, 36)], false⟩
theorem ti38_ok : EntryOk Try.prog 38 ti38 := ⟨by kernel_rfl, ⟨by kernel_rfl, by kernel_rfl, by kernel_rfl⟩, .inr ⟨_, rfl⟩, rfl, rfl, fun h => by cases h⟩
def ti42 : TI := ⟨3, 32, .agg [.v (.int .i64 0), .v (.int .i64 0), .v (.string ByteArray.empty)], .struct [(0, 3), (1, 3), (2, 9)], true⟩
theorem ti42_ok : EntryOk Try.prog 42 ti42 := ⟨by kernel_rfl, ⟨by kernel_rfl, by kernel_rfl, by kernel_rfl⟩, .inr ⟨_, rfl⟩, rfl, rfl, fun _ => ⟨by kernel_rfl, by kernel_rfl, by kernel_rfl⟩⟩
def ti43 : TI := ⟨3, 32, .agg [.v (.int .i64 0), .v (.int .i64 0), .v (.string ByteArray.empty)], .struct [(0, 3), (1, 3), (2, 9)], true⟩
theorem ti43_ok : EntryOk Try.prog 43 ti43 := ⟨by kernel_rfl, ⟨by kernel_rfl, by kernel_rfl, by kernel_rfl⟩, .inr ⟨_, rfl⟩, rfl, rfl, fun _ => ⟨by kernel_rfl, by kernel_rfl, by kernel_rfl⟩⟩
def ti45 : TI := ⟨1, 24, .v (.slice none 0 0), .slice 9, false⟩
theorem ti45_ok : EntryOk Try.prog 45 ti45 := ⟨by kernel_rfl, Try.underlying45, .inl rfl, rfl, rfl, fun h => by cases h⟩
def ti53 : TI := ⟨1, 8, .v (.map none), .map 9 3, false⟩
theorem ti53_ok : EntryOk Try.prog 53 ti53 := ⟨by kernel_rfl, Try.underlying53, .inl rfl, rfl, rfl, fun h => by cases h⟩
def ti54 : TI := ⟨4, 48, .agg [.v (.int .i64 0), .v (.int .i64 0), .v (.slice none 0 0), .v (.map none)], .struct [(0, 3), (1, 3), (2, 26), (3, 53)], false⟩
theorem ti54_ok : EntryOk Try.prog 54 ti54 := ⟨by kernel_rfl, ⟨by kernel_rfl, by kernel_rfl, by kernel_rfl⟩, .inr ⟨_, rfl⟩, rfl, rfl, fun h => by cases h⟩
def ti55 : TI := ⟨4, 48, .agg [.v (.int .i64 0), .v (.int .i64 0), .v (.slice none 0 0), .v (.map none)], .struct [(0, 3), (1, 3), (2, 26), (3, 53)], false⟩
theorem ti55_ok : EntryOk Try.prog 55 ti55 := ⟨by kernel_rfl, ⟨by kernel_rfl, by kernel_rfl, by kernel_rfl⟩, .inr ⟨_, rfl⟩, rfl, rfl, fun h => by cases h⟩
def ti72 : TI := ⟨2, 24, .agg [.v (.string ByteArray.empty), .v (.int .i64 0)], .struct [(0, 9), (1, 3)], true⟩
theorem ti72_ok : EntryOk Try.prog 72 ti72 := ⟨by kernel_rfl, ⟨by kernel_rfl, by kernel_rfl, by kernel_rfl⟩, .inr ⟨_, rfl⟩, rfl, rfl, fun _ => ⟨by kernel_rfl, by kernel_rfl, by kernel_rfl⟩⟩
def ti73 : TI := ⟨2, 24, .agg [.v (.string ByteArray.empty), .v (.int .i64 0)], .struct [(0, 9), (1, 3)], true⟩
theorem ti73_ok : EntryOk Try.prog 73 ti73 := ⟨by kernel_rfl, ⟨by kernel_rfl, by kernel_rfl, by kernel_rfl⟩, .inr ⟨_, rfl⟩, rfl, rfl, fun _ => ⟨by kernel_rfl, by kernel_rfl, by kernel_rfl⟩⟩
def ti84 : TI := ⟨1, 8, .v (.int .u64 0), .int .u64, false⟩
theorem ti84_ok : EntryOk Try.prog 84 ti84 := ⟨by kernel_rfl, Try.underlying84, .inl rfl, rfl, rfl, fun h => by cases h⟩
def ti86 : TI := ⟨1, 8, .v (.int .i64 0), .int .i64, false⟩
theorem ti86_ok : EntryOk Try.prog 86 ti86 := ⟨by kernel_rfl, Try.underlying86, .inl rfl, rfl, rfl, fun h => by cases h⟩
def ti93 : TI := ⟨1, 4, .v (.int .u32 0), .int .u32, false⟩
theorem ti93_ok : EntryOk Try.prog 93 ti93 := ⟨by kernel_rfl, Try.underlying93, .inl rfl, rfl, rfl, fun h => by cases h⟩
def ti95 : TI := ⟨1, 8, .v (.int .u64 0), .int .u64, false⟩
theorem ti95_ok : EntryOk Try.prog 95 ti95 := ⟨by kernel_rfl, Try.underlying95, .inl rfl, rfl, rfl, fun h => by cases h⟩
def ti96 : TI := ⟨1, 8, .v (.int .u64 0), .int .u64, false⟩
theorem ti96_ok : EntryOk Try.prog 96 ti96 := ⟨by kernel_rfl, Try.underlying96, .inl rfl, rfl, rfl, fun h => by cases h⟩
def ti100 : TI := ⟨1, 8, .v (.pointer none), .ptr 3, false⟩
theorem ti100_ok : EntryOk Try.prog 100 ti100 := ⟨by kernel_rfl, Try.underlying100, .inl rfl, rfl, rfl, fun h => by cases h⟩
def ti102 : TI := ⟨1, 8, .v (.pointer none), .ptr 96, false⟩
theorem ti102_ok : EntryOk Try.prog 102 ti102 := ⟨by kernel_rfl, Try.underlying102, .inl rfl, rfl, rfl, fun h => by cases h⟩
def ti106 : TI := ⟨4, 40, .agg [.v (.pointer none), .v (.pointer none), .v (.pointer none), .v (.string ByteArray.empty)], .struct [(0, 17), (1, 17), (2, 17), (3, 9)], false⟩
theorem ti106_ok : EntryOk Try.prog 106 ti106 := ⟨by kernel_rfl, ⟨by kernel_rfl, by kernel_rfl, by kernel_rfl⟩, .inr ⟨_, rfl⟩, rfl, rfl, fun h => by cases h⟩
def ti107 : TI := ⟨4, 40, .agg [.v (.pointer none), .v (.pointer none), .v (.pointer none), .v (.string ByteArray.empty)], .struct [(0, 17), (1, 17), (2, 17), (3, 9)], false⟩
theorem ti107_ok : EntryOk Try.prog 107 ti107 := ⟨by kernel_rfl, ⟨by kernel_rfl, by kernel_rfl, by kernel_rfl⟩, .inr ⟨_, rfl⟩, rfl, rfl, fun h => by cases h⟩
def ti108 : TI := ⟨0, 0, .agg [], .arr 0 16, false⟩
theorem ti108_ok : EntryOk Try.prog 108 ti108 := ⟨by kernel_rfl, Try.underlying108, .inr ⟨_, rfl⟩, rfl, rfl, fun h => by cases h⟩
def ti109 : TI := ⟨0, 0, .agg [], .struct [(0, 108)], false⟩
theorem ti109_ok : EntryOk Try.prog 109 ti109 := ⟨by kernel_rfl, ⟨by kernel_rfl, by kernel_rfl, by kernel_rfl⟩, .inr ⟨_, rfl⟩, rfl, rfl, fun h => by cases h⟩
def ti110 : TI := ⟨0, 0, .agg [], .struct [(0, 108)], false⟩
theorem ti110_ok : EntryOk Try.prog 110 ti110 := ⟨by kernel_rfl, ⟨by kernel_rfl, by kernel_rfl, by kernel_rfl⟩, .inr ⟨_, rfl⟩, rfl, rfl, fun h => by cases h⟩
def ti112 : TI := ⟨1, 1, .v (.int .u8 0), .int .u8, false⟩
theorem ti112_ok : EntryOk Try.prog 112 ti112 := ⟨by kernel_rfl, Try.underlying112, .inl rfl, rfl, rfl, fun h => by cases h⟩
def ti113 : TI := ⟨1, 1, .v (.int .u8 0), .int .u8, false⟩
theorem ti113_ok : EntryOk Try.prog 113 ti113 := ⟨by kernel_rfl, Try.underlying113, .inl rfl, rfl, rfl, fun h => by cases h⟩
def ti115 : TI := ⟨1, 8, .v (.pointer none), .ptr 5, false⟩
theorem ti115_ok : EntryOk Try.prog 115 ti115 := ⟨by kernel_rfl, Try.underlying115, .inl rfl, rfl, rfl, fun h => by cases h⟩
def ti116 : TI := ⟨1, 4, .v (.int .i32 0), .int .i32, false⟩
theorem ti116_ok : EntryOk Try.prog 116 ti116 := ⟨by kernel_rfl, Try.underlying116, .inl rfl, rfl, rfl, fun h => by cases h⟩
def ti117 : TI := ⟨1, 4, .v (.int .i32 0), .int .i32, false⟩
theorem ti117_ok : EntryOk Try.prog 117 ti117 := ⟨by kernel_rfl, Try.underlying117, .inl rfl, rfl, rfl, fun h => by cases h⟩
def ti118 : TI := ⟨11, 48, .agg [.v (.int .u64 0), .v (.int .u64 0), .v (.int .u32 0), .v (.int .u8 0), .v (.int .u8 0), .v (.int .u8 0), .v (.int .u8 0), .v .nilFunc, .v (.pointer none), .v (.int .i32 0), .v (.int .i32 0)], .struct [(0, 12), (1, 12), (2, 93), (3, 112), (4, 5), (5, 5), (6, 113), (7, 114), (8, 115), (9, 116), (10, 117)], false⟩
theorem ti118_ok : EntryOk Try.prog 118 ti118 := ⟨by kernel_rfl, ⟨by kernel_rfl, by kernel_rfl, by kernel_rfl⟩, .inr ⟨_, rfl⟩, rfl, rfl, fun h => by cases h⟩
def ti119 : TI := ⟨11, 48, .agg [.v (.int .u64 0), .v (.int .u64 0), .v (.int .u32 0), .v (.int .u8 0), .v (.int .u8 0), .v (.int .u8 0), .v (.int .u8 0), .v .nilFunc, .v (.pointer none), .v (.int .i32 0), .v (.int .i32 0)], .struct [(0, 12), (1, 12), (2, 93), (3, 112), (4, 5), (5, 5), (6, 113), (7, 114), (8, 115), (9, 116), (10, 117)], false⟩
theorem ti119_ok : EntryOk Try.prog 119 ti119 := ⟨by kernel_rfl, ⟨by kernel_rfl, by kernel_rfl, by kernel_rfl⟩, .inr ⟨_, rfl⟩, rfl, rfl, fun h => by cases h⟩
def tab : Tab := [(2, ti2), (3, ti3), (4, ti4), (5, ti5), (6, ti6), (7, ti7), (8, ti8), (9, ti9), (10, ti10), (11, ti11), (12, ti12), (13, ti13), (14, ti14), (15, ti15), (16, ti16), (17, ti17), (18, ti18), (19, ti19), (20, ti20), (21, ti21), (22, ti22), (23, ti23), (26, ti26), (28, ti28), (36, ti36), (37, ti37), (38, ti38), (42, ti42), (43, ti43), (45, ti45), (53, ti53), (54, ti54), (55, ti55), (72, ti72), (73, ti73), (84, ti84), (86, ti86), (93, ti93), (95, ti95), (96, ti96), (100, ti100), (102, ti102), (106, ti106), (107, ti107), (108, ti108), (109, ti109), (110, ti110), (112, ti112), (113, ti113), (115, ti115), (116, ti116), (117, ti117), (118, ti118), (119, ti119)]
theorem tab_ok : TabOk Try.prog tab := ⟨ti2_ok, ti3_ok, ti4_ok, ti5_ok, ti6_ok, ti7_ok, ti8_ok, ti9_ok, ti10_ok, ti11_ok, ti12_ok, ti13_ok, ti14_ok, ti15_ok, ti16_ok, ti17_ok, ti18_ok, ti19_ok, ti20_ok, ti21_ok, ti22_ok, ti23_ok, ti26_ok, ti28_ok, ti36_ok, ti37_ok, ti38_ok, ti42_ok, ti43_ok, ti45_ok, ti53_ok, ti54_ok, ti55_ok, ti72_ok, ti73_ok, ti84_ok, ti86_ok, ti93_ok, ti95_ok, ti96_ok, ti100_ok, ti102_ok, ti106_ok, ti107_ok, ti108_ok, ti109_ok, ti110_ok, ti112_ok, ti113_ok, ti115_ok, ti116_ok, ti117_ok, ti118_ok, ti119_ok, trivial⟩
end Go.Proofs.Ytkjnkepdhbpnbaa
