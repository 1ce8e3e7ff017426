/- The types of the program, for the engine. Laid by a program of mine. -/
import Derived.Test.YtilejaehbgljbaaDoorProg
import Derived.Test.YtilejaehbgljbaaDoorEngG
namespace Go.Proofs.YtilejaehbgljbaaDoor
open Go.Eng
set_option maxRecDepth 100000
def ti2 : TI := ⟨1, 8, .v (.int .i64 0), .int .i64, false⟩
theorem ti2_ok : EntryOk Tryd.prog 2 ti2 := ⟨by kernel_rfl, Tryd.underlying2, .inl rfl, rfl, rfl, fun h => by cases h⟩
def ti3 : TI := ⟨1, 8, .v (.int .i64 0), .int .i64, false⟩
theorem ti3_ok : EntryOk Tryd.prog 3 ti3 := ⟨by kernel_rfl, Tryd.underlying3, .inl rfl, rfl, rfl, fun h => by cases h⟩
def ti4 : TI := ⟨1, 1, .v (.bool false), .bool, false⟩
theorem ti4_ok : EntryOk Tryd.prog 4 ti4 := ⟨by kernel_rfl, Tryd.underlying4, .inl rfl, rfl, rfl, fun h => by cases h⟩
def ti5 : TI := ⟨1, 1, .v (.int .u8 0), .int .u8, false⟩
theorem ti5_ok : EntryOk Tryd.prog 5 ti5 := ⟨by kernel_rfl, Tryd.underlying5, .inl rfl, rfl, rfl, fun h => by cases h⟩
def ti6 : TI := ⟨1, 1, .v (.int .u8 0), .int .u8, false⟩
theorem ti6_ok : EntryOk Tryd.prog 6 ti6 := ⟨by kernel_rfl, Tryd.underlying6, .inl rfl, rfl, rfl, fun h => by cases h⟩
def ti7 : TI := ⟨4, 24, .agg [.v (.int .i64 0), .v (.int .i64 0), .v (.bool false), .v (.int .u8 0)], .struct [(0, 2), (1, 3), (2, 4), (3, 6)], false⟩
theorem ti7_ok : EntryOk Tryd.prog 7 ti7 := ⟨by kernel_rfl, ⟨by kernel_rfl, by kernel_rfl, by kernel_rfl⟩, .inr ⟨_, rfl⟩, rfl, rfl, fun h => by cases h⟩
def ti8 : TI := ⟨4, 24, .agg [.v (.int .i64 0), .v (.int .i64 0), .v (.bool false), .v (.int .u8 0)], .struct [(0, 2), (1, 3), (2, 4), (3, 6)], false⟩
theorem ti8_ok : EntryOk Tryd.prog 8 ti8 := ⟨by kernel_rfl, ⟨by kernel_rfl, by kernel_rfl, by kernel_rfl⟩, .inr ⟨_, rfl⟩, rfl, rfl, fun h => by cases h⟩
def ti9 : TI := ⟨1, 16, .v (.string ByteArray.empty), .str, false⟩
theorem ti9_ok : EntryOk Tryd.prog 9 ti9 := ⟨by kernel_rfl, Tryd.underlying9, .inl rfl, rfl, rfl, fun h => by cases h⟩
def ti10 : TI := ⟨1, 16, .v (.string ByteArray.empty), .str, false⟩
theorem ti10_ok : EntryOk Tryd.prog 10 ti10 := ⟨by kernel_rfl, Tryd.underlying10, .inl rfl, rfl, rfl, fun h => by cases h⟩
def ti11 : TI := ⟨1, 16, .v (.string ByteArray.empty), .str, false⟩
theorem ti11_ok : EntryOk Tryd.prog 11 ti11 := ⟨by kernel_rfl, Tryd.underlying11, .inl rfl, rfl, rfl, fun h => by cases h⟩
def ti12 : TI := ⟨1, 8, .v (.int .u64 0), .int .u64, false⟩
theorem ti12_ok : EntryOk Tryd.prog 12 ti12 := ⟨by kernel_rfl, Tryd.underlying12, .inl rfl, rfl, rfl, fun h => by cases h⟩
def ti13 : TI := ⟨2, 24, .agg [.v (.string ByteArray.empty), .v (.int .u64 0)], .struct [(0, 9), (1, 12)], false⟩
theorem ti13_ok : EntryOk Tryd.prog 13 ti13 := ⟨by kernel_rfl, ⟨by kernel_rfl, by kernel_rfl, by kernel_rfl⟩, .inr ⟨_, rfl⟩, rfl, rfl, fun h => by cases h⟩
def ti14 : TI := ⟨2, 24, .agg [.v (.string ByteArray.empty), .v (.int .u64 0)], .struct [(0, 9), (1, 12)], false⟩
theorem ti14_ok : EntryOk Tryd.prog 14 ti14 := ⟨by kernel_rfl, ⟨by kernel_rfl, by kernel_rfl, by kernel_rfl⟩, .inr ⟨_, rfl⟩, rfl, rfl, fun h => by cases h⟩
def ti15 : TI := ⟨1, 8, .v (.pointer none), .ptr 115, false⟩
theorem ti15_ok : EntryOk Tryd.prog 15 ti15 := ⟨by kernel_rfl, Tryd.underlying15, .inl rfl, rfl, rfl, fun h => by cases h⟩
def ti16 : TI := ⟨1, 8, .v (.pointer none), .ptr 118, false⟩
theorem ti16_ok : EntryOk Tryd.prog 16 ti16 := ⟨by kernel_rfl, Tryd.underlying16, .inl rfl, rfl, rfl, fun h => by cases h⟩
def ti17 : TI := ⟨1, 8, .v (.pointer none), .ptr 126, false⟩
theorem ti17_ok : EntryOk Tryd.prog 17 ti17 := ⟨by kernel_rfl, Tryd.underlying17, .inl rfl, rfl, rfl, fun h => by cases h⟩
def ti18 : TI := ⟨1, 8, .agg [.v (.pointer none)], .struct [(0, 17)], false⟩
theorem ti18_ok : EntryOk Tryd.prog 18 ti18 := ⟨by kernel_rfl, ⟨by kernel_rfl, by kernel_rfl, by kernel_rfl⟩, .inr ⟨_, rfl⟩, rfl, rfl, fun h => by cases h⟩
def ti19 : TI := ⟨1, 8, .agg [.v (.pointer none)], .struct [(0, 17)], false⟩
theorem ti19_ok : EntryOk Tryd.prog 19 ti19 := ⟨by kernel_rfl, ⟨by kernel_rfl, by kernel_rfl, by kernel_rfl⟩, .inr ⟨_, rfl⟩, rfl, rfl, fun h => by cases h⟩
def ti20 : TI := ⟨1, 16, .v .nilIface, .iface, false⟩
theorem ti20_ok : EntryOk Tryd.prog 20 ti20 := ⟨by kernel_rfl, (by show match Tryd.prog.underlying 20 with | some (.interface _) => True | _ => False; rw [Tryd.underlying20]; trivial), .inl rfl, rfl, rfl, fun h => by cases h⟩
def ti21 : TI := ⟨1, 4, .v (.int .i32 0), .int .i32, false⟩
theorem ti21_ok : EntryOk Tryd.prog 21 ti21 := ⟨by kernel_rfl, Tryd.underlying21, .inl rfl, rfl, rfl, fun h => by cases h⟩
def ti22 : TI := ⟨1, 8, .v (.int .i64 0), .int .i64, false⟩
theorem ti22_ok : EntryOk Tryd.prog 22 ti22 := ⟨by kernel_rfl, Tryd.underlying22, .inl rfl, rfl, rfl, fun h => by cases h⟩
def ti33 : TI := ⟨2, 16, .agg [.v (.int .i64 0), .v (.int .i64 0)], .struct [(0, 3), (1, 3)], true⟩
theorem ti33_ok : EntryOk Tryd.prog 33 ti33 := ⟨by kernel_rfl, ⟨by kernel_rfl, by kernel_rfl, by kernel_rfl⟩, .inr ⟨_, rfl⟩, rfl, rfl, fun _ => ⟨by kernel_rfl, by kernel_rfl, by kernel_rfl⟩⟩
def ti34 : TI := ⟨2, 16, .agg [.v (.int .i64 0), .v (.int .i64 0)], .struct [(0, 3), (1, 3)], true⟩
theorem ti34_ok : EntryOk Tryd.prog 34 ti34 := ⟨by kernel_rfl, ⟨by kernel_rfl, by kernel_rfl, by kernel_rfl⟩, .inr ⟨_, rfl⟩, rfl, rfl, fun _ => ⟨by kernel_rfl, by kernel_rfl, by kernel_rfl⟩⟩
def ti35 : TI := ⟨4, 24, .agg [.v (.int .i64 0), .v (.int .i64 0), .v (.bool false), .v (.bool false)], .struct [(0, 34), (2, 4), (3, 4)], true⟩
theorem ti35_ok : EntryOk Tryd.prog 35 ti35 := ⟨by kernel_rfl, ⟨by kernel_rfl, by kernel_rfl, by kernel_rfl⟩, .inr ⟨_, rfl⟩, rfl, rfl, fun _ => ⟨by kernel_rfl, by kernel_rfl, by kernel_rfl⟩⟩
def ti36 : TI := ⟨4, 24, .agg [.v (.int .i64 0), .v (.int .i64 0), .v (.bool false), .v (.bool false)], .struct [(0, 34), (2, 4), (3, 4)], true⟩
theorem ti36_ok : EntryOk Tryd.prog 36 ti36 := ⟨by kernel_rfl, ⟨by kernel_rfl, by kernel_rfl, by kernel_rfl⟩, .inr ⟨_, rfl⟩, rfl, rfl, fun _ => ⟨by kernel_rfl, by kernel_rfl, by kernel_rfl⟩⟩
def ti45 : TI := ⟨4, 32, .agg [.v (.int .i64 0), .v (.int .i64 0), .v (.int .i64 0), .v (.int .i64 0)], .struct [(0, 3), (1, 3), (2, 3), (3, 3)], true⟩
theorem ti45_ok : EntryOk Tryd.prog 45 ti45 := ⟨by kernel_rfl, ⟨by kernel_rfl, by kernel_rfl, by kernel_rfl⟩, .inr ⟨_, rfl⟩, rfl, rfl, fun _ => ⟨by kernel_rfl, by kernel_rfl, by kernel_rfl⟩⟩
def ti46 : TI := ⟨4, 32, .agg [.v (.int .i64 0), .v (.int .i64 0), .v (.int .i64 0), .v (.int .i64 0)], .struct [(0, 3), (1, 3), (2, 3), (3, 3)], true⟩
theorem ti46_ok : EntryOk Tryd.prog 46 ti46 := ⟨by kernel_rfl, ⟨by kernel_rfl, by kernel_rfl, by kernel_rfl⟩, .inr ⟨_, rfl⟩, rfl, rfl, fun _ => ⟨by kernel_rfl, by kernel_rfl, by kernel_rfl⟩⟩
def ti61 : TI := ⟨3, 3, .agg [.v (.int .u8 0), .v (.int .u8 0), .v (.int .u8 0)], .arr 3 5, false⟩
theorem ti61_ok : EntryOk Tryd.prog 61 ti61 := ⟨by kernel_rfl, Tryd.underlying61, .inr ⟨_, rfl⟩, rfl, rfl, fun h => by cases h⟩
def ti62 : TI := ⟨1, 24, .v (.slice none 0 0), .slice 5, false⟩
theorem ti62_ok : EntryOk Tryd.prog 62 ti62 := ⟨by kernel_rfl, Tryd.underlying62, .inl rfl, rfl, rfl, fun h => by cases h⟩
def ti69 : TI := ⟨1, 16, .v .nilIface, .iface, false⟩
theorem ti69_ok : EntryOk Tryd.prog 69 ti69 := ⟨by kernel_rfl, (by show match Tryd.prog.underlying 69 with | some (.interface _) => True | _ => False; rw [Tryd.underlying69]; trivial), .inl rfl, rfl, rfl, fun h => by cases h⟩
def ti70 : TI := ⟨1, 16, .v .nilIface, .iface, false⟩
theorem ti70_ok : EntryOk Tryd.prog 70 ti70 := ⟨by kernel_rfl, (by show match Tryd.prog.underlying 70 with | some (.interface _) => True | _ => False; rw [Tryd.underlying70]; trivial), .inl rfl, rfl, rfl, fun h => by cases h⟩
def ti78 : TI := ⟨1, 8, .v (.int .i64 0), .int .i64, false⟩
theorem ti78_ok : EntryOk Tryd.prog 78 ti78 := ⟨by kernel_rfl, Tryd.underlying78, .inl rfl, rfl, rfl, fun h => by cases h⟩
def ti81 : TI := ⟨1, 8, .v (.pointer none), .ptr 95, false⟩
theorem ti81_ok : EntryOk Tryd.prog 81 ti81 := ⟨by kernel_rfl, Tryd.underlying81, .inl rfl, rfl, rfl, fun h => by cases h⟩
def ti84 : TI := ⟨24, 24, .agg [.v (.int .u8 0), .v (.int .u8 0), .v (.int .u8 0), .v (.int .u8 0), .v (.int .u8 0), .v (.int .u8 0), .v (.int .u8 0), .v (.int .u8 0), .v (.int .u8 0), .v (.int .u8 0), .v (.int .u8 0), .v (.int .u8 0), .v (.int .u8 0), .v (.int .u8 0), .v (.int .u8 0), .v (.int .u8 0), .v (.int .u8 0), .v (.int .u8 0), .v (.int .u8 0), .v (.int .u8 0), .v (.int .u8 0), .v (.int .u8 0), .v (.int .u8 0), .v (.int .u8 0)], .arr 24 5, false⟩
theorem ti84_ok : EntryOk Tryd.prog 84 ti84 := ⟨by kernel_rfl, Tryd.underlying84, .inr ⟨_, rfl⟩, rfl, rfl, fun h => by cases h⟩
def ti85 : TI := ⟨1, 8, .v (.int .u64 0), .int .u64, false⟩
theorem ti85_ok : EntryOk Tryd.prog 85 ti85 := ⟨by kernel_rfl, Tryd.underlying85, .inl rfl, rfl, rfl, fun h => by cases h⟩
def ti92 : TI := ⟨1, 8, .v (.int .u64 0), .int .u64, false⟩
theorem ti92_ok : EntryOk Tryd.prog 92 ti92 := ⟨by kernel_rfl, Tryd.underlying92, .inl rfl, rfl, rfl, fun h => by cases h⟩
def ti94 : TI := ⟨3, 48, .agg [.v (.string ByteArray.empty), .v (.string ByteArray.empty), .v .nilIface], .struct [(0, 9), (1, 9), (2, 70)], false⟩
theorem ti94_ok : EntryOk Tryd.prog 94 ti94 := ⟨by kernel_rfl, ⟨by kernel_rfl, by kernel_rfl, by kernel_rfl⟩, .inr ⟨_, rfl⟩, rfl, rfl, fun h => by cases h⟩
def ti95 : TI := ⟨3, 48, .agg [.v (.string ByteArray.empty), .v (.string ByteArray.empty), .v .nilIface], .struct [(0, 9), (1, 9), (2, 70)], false⟩
theorem ti95_ok : EntryOk Tryd.prog 95 ti95 := ⟨by kernel_rfl, ⟨by kernel_rfl, by kernel_rfl, by kernel_rfl⟩, .inr ⟨_, rfl⟩, rfl, rfl, fun h => by cases h⟩
def ti99 : TI := ⟨20, 160, .agg [.v (.int .u64 0), .v (.int .u64 0), .v (.int .u64 0), .v (.int .u64 0), .v (.int .u64 0), .v (.int .u64 0), .v (.int .u64 0), .v (.int .u64 0), .v (.int .u64 0), .v (.int .u64 0), .v (.int .u64 0), .v (.int .u64 0), .v (.int .u64 0), .v (.int .u64 0), .v (.int .u64 0), .v (.int .u64 0), .v (.int .u64 0), .v (.int .u64 0), .v (.int .u64 0), .v (.int .u64 0)], .arr 20 85, false⟩
theorem ti99_ok : EntryOk Tryd.prog 99 ti99 := ⟨by kernel_rfl, Tryd.underlying99, .inr ⟨_, rfl⟩, rfl, rfl, fun h => by cases h⟩
def ti100 : TI := ⟨1, 4, .v (.int .u32 0), .int .u32, false⟩
theorem ti100_ok : EntryOk Tryd.prog 100 ti100 := ⟨by kernel_rfl, Tryd.underlying100, .inl rfl, rfl, rfl, fun h => by cases h⟩
def ti101 : TI := ⟨65, 65, .agg [.v (.int .u8 0), .v (.int .u8 0), .v (.int .u8 0), .v (.int .u8 0), .v (.int .u8 0), .v (.int .u8 0), .v (.int .u8 0), .v (.int .u8 0), .v (.int .u8 0), .v (.int .u8 0), .v (.int .u8 0), .v (.int .u8 0), .v (.int .u8 0), .v (.int .u8 0), .v (.int .u8 0), .v (.int .u8 0), .v (.int .u8 0), .v (.int .u8 0), .v (.int .u8 0), .v (.int .u8 0), .v (.int .u8 0), .v (.int .u8 0), .v (.int .u8 0), .v (.int .u8 0), .v (.int .u8 0), .v (.int .u8 0), .v (.int .u8 0), .v (.int .u8 0), .v (.int .u8 0), .v (.int .u8 0), .v (.int .u8 0), .v (.int .u8 0), .v (.int .u8 0), .v (.int .u8 0), .v (.int .u8 0), .v (.int .u8 0), .v (.int .u8 0), .v (.int .u8 0), .v (.int .u8 0), .v (.int .u8 0), .v (.int .u8 0), .v (.int .u8 0), .v (.int .u8 0), .v (.int .u8 0), .v (.int .u8 0), .v (.int .u8 0), .v (.int .u8 0), .v (.int .u8 0), .v (.int .u8 0), .v (.int .u8 0), .v (.int .u8 0), .v (.int .u8 0), .v (.int .u8 0), .v (.int .u8 0), .v (.int .u8 0), .v (.int .u8 0), .v (.int .u8 0), .v (.int .u8 0), .v (.int .u8 0), .v (.int .u8 0), .v (.int .u8 0), .v (.int .u8 0), .v (.int .u8 0), .v (.int .u8 0), .v (.int .u8 0)], .arr 65 5, false⟩
theorem ti101_ok : EntryOk Tryd.prog 101 ti101 := ⟨by kernel_rfl, Tryd.underlying101, .inr ⟨_, rfl⟩, rfl, rfl, fun h => by cases h⟩
def ti106 : TI := ⟨1, 8, .v (.pointer none), .ptr 5, false⟩
theorem ti106_ok : EntryOk Tryd.prog 106 ti106 := ⟨by kernel_rfl, Tryd.underlying106, .inl rfl, rfl, rfl, fun h => by cases h⟩
def ti107 : TI := ⟨1, 8, .v (.pointer none), .ptr 109, false⟩
theorem ti107_ok : EntryOk Tryd.prog 107 ti107 := ⟨by kernel_rfl, Tryd.underlying107, .inl rfl, rfl, rfl, fun h => by cases h⟩
def ti108 : TI := ⟨1, 16, .agg [.v (.string ByteArray.empty)], .struct [(0, 9)], true⟩
theorem ti108_ok : EntryOk Tryd.prog 108 ti108 := ⟨by kernel_rfl, ⟨by kernel_rfl, by kernel_rfl, by kernel_rfl⟩, .inr ⟨_, rfl⟩, rfl, rfl, fun _ => ⟨by kernel_rfl, by kernel_rfl, by kernel_rfl⟩⟩
def ti109 : TI := ⟨1, 16, .agg [.v (.string ByteArray.empty)], .struct [(0, 9)], true⟩
theorem ti109_ok : EntryOk Tryd.prog 109 ti109 := ⟨by kernel_rfl, ⟨by kernel_rfl, by kernel_rfl, by kernel_rfl⟩, .inr ⟨_, rfl⟩, rfl, rfl, fun _ => ⟨by kernel_rfl, by kernel_rfl, by kernel_rfl⟩⟩
def ti111 : TI := ⟨32, 32, .agg [.v (.int .u8 0), .v (.int .u8 0), .v (.int .u8 0), .v (.int .u8 0), .v (.int .u8 0), .v (.int .u8 0), .v (.int .u8 0), .v (.int .u8 0), .v (.int .u8 0), .v (.int .u8 0), .v (.int .u8 0), .v (.int .u8 0), .v (.int .u8 0), .v (.int .u8 0), .v (.int .u8 0), .v (.int .u8 0), .v (.int .u8 0), .v (.int .u8 0), .v (.int .u8 0), .v (.int .u8 0), .v (.int .u8 0), .v (.int .u8 0), .v (.int .u8 0), .v (.int .u8 0), .v (.int .u8 0), .v (.int .u8 0), .v (.int .u8 0), .v (.int .u8 0), .v (.int .u8 0), .v (.int .u8 0), .v (.int .u8 0), .v (.int .u8 0)], .arr 32 5, false⟩
theorem ti111_ok : EntryOk Tryd.prog 111 ti111 := ⟨by kernel_rfl, Tryd.underlying111, .inr ⟨_, rfl⟩, rfl, rfl, fun h => by cases h⟩
def ti112 : TI := ⟨64, 64, .agg [.v (.int .u8 0), .v (.int .u8 0), .v (.int .u8 0), .v (.int .u8 0), .v (.int .u8 0), .v (.int .u8 0), .v (.int .u8 0), .v (.int .u8 0), .v (.int .u8 0), .v (.int .u8 0), .v (.int .u8 0), .v (.int .u8 0), .v (.int .u8 0), .v (.int .u8 0), .v (.int .u8 0), .v (.int .u8 0), .v (.int .u8 0), .v (.int .u8 0), .v (.int .u8 0), .v (.int .u8 0), .v (.int .u8 0), .v (.int .u8 0), .v (.int .u8 0), .v (.int .u8 0), .v (.int .u8 0), .v (.int .u8 0), .v (.int .u8 0), .v (.int .u8 0), .v (.int .u8 0), .v (.int .u8 0), .v (.int .u8 0), .v (.int .u8 0), .v (.int .u8 0), .v (.int .u8 0), .v (.int .u8 0), .v (.int .u8 0), .v (.int .u8 0), .v (.int .u8 0), .v (.int .u8 0), .v (.int .u8 0), .v (.int .u8 0), .v (.int .u8 0), .v (.int .u8 0), .v (.int .u8 0), .v (.int .u8 0), .v (.int .u8 0), .v (.int .u8 0), .v (.int .u8 0), .v (.int .u8 0), .v (.int .u8 0), .v (.int .u8 0), .v (.int .u8 0), .v (.int .u8 0), .v (.int .u8 0), .v (.int .u8 0), .v (.int .u8 0), .v (.int .u8 0), .v (.int .u8 0), .v (.int .u8 0), .v (.int .u8 0), .v (.int .u8 0), .v (.int .u8 0), .v (.int .u8 0), .v (.int .u8 0)], .arr 64 5, false⟩
theorem ti112_ok : EntryOk Tryd.prog 112 ti112 := ⟨by kernel_rfl, Tryd.underlying112, .inr ⟨_, rfl⟩, rfl, rfl, fun h => by cases h⟩
def ti114 : TI := ⟨4, 40, .agg [.v (.pointer none), .v (.pointer none), .v (.pointer none), .v (.string ByteArray.empty)], .struct [(0, 17), (1, 17), (2, 17), (3, 9)], false⟩
theorem ti114_ok : EntryOk Tryd.prog 114 ti114 := ⟨by kernel_rfl, ⟨by kernel_rfl, by kernel_rfl, by kernel_rfl⟩, .inr ⟨_, rfl⟩, rfl, rfl, fun h => by cases h⟩
def ti115 : TI := ⟨4, 40, .agg [.v (.pointer none), .v (.pointer none), .v (.pointer none), .v (.string ByteArray.empty)], .struct [(0, 17), (1, 17), (2, 17), (3, 9)], false⟩
theorem ti115_ok : EntryOk Tryd.prog 115 ti115 := ⟨by kernel_rfl, ⟨by kernel_rfl, by kernel_rfl, by kernel_rfl⟩, .inr ⟨_, rfl⟩, rfl, rfl, fun h => by cases h⟩
def ti116 : TI := ⟨0, 0, .agg [], .arr 0 16, false⟩
theorem ti116_ok : EntryOk Tryd.prog 116 ti116 := ⟨by kernel_rfl, Tryd.underlying116, .inr ⟨_, rfl⟩, rfl, rfl, fun h => by cases h⟩
def ti117 : TI := ⟨0, 0, .agg [], .struct [(0, 116)], false⟩
theorem ti117_ok : EntryOk Tryd.prog 117 ti117 := ⟨by kernel_rfl, ⟨by kernel_rfl, by kernel_rfl, by kernel_rfl⟩, .inr ⟨_, rfl⟩, rfl, rfl, fun h => by cases h⟩
def ti118 : TI := ⟨0, 0, .agg [], .struct [(0, 116)], false⟩
theorem ti118_ok : EntryOk Tryd.prog 118 ti118 := ⟨by kernel_rfl, ⟨by kernel_rfl, by kernel_rfl, by kernel_rfl⟩, .inr ⟨_, rfl⟩, rfl, rfl, fun h => by cases h⟩
def ti120 : TI := ⟨1, 1, .v (.int .u8 0), .int .u8, false⟩
theorem ti120_ok : EntryOk Tryd.prog 120 ti120 := ⟨by kernel_rfl, Tryd.underlying120, .inl rfl, rfl, rfl, fun h => by cases h⟩
def ti121 : TI := ⟨1, 1, .v (.int .u8 0), .int .u8, false⟩
theorem ti121_ok : EntryOk Tryd.prog 121 ti121 := ⟨by kernel_rfl, Tryd.underlying121, .inl rfl, rfl, rfl, fun h => by cases h⟩
def ti123 : TI := ⟨1, 4, .v (.int .i32 0), .int .i32, false⟩
theorem ti123_ok : EntryOk Tryd.prog 123 ti123 := ⟨by kernel_rfl, Tryd.underlying123, .inl rfl, rfl, rfl, fun h => by cases h⟩
def ti124 : TI := ⟨1, 4, .v (.int .i32 0), .int .i32, false⟩
theorem ti124_ok : EntryOk Tryd.prog 124 ti124 := ⟨by kernel_rfl, Tryd.underlying124, .inl rfl, rfl, rfl, fun h => by cases h⟩
def ti125 : TI := ⟨11, 48, .agg [.v (.int .u64 0), .v (.int .u64 0), .v (.int .u32 0), .v (.int .u8 0), .v (.int .u8 0), .v (.int .u8 0), .v (.int .u8 0), .v .nilFunc, .v (.pointer none), .v (.int .i32 0), .v (.int .i32 0)], .struct [(0, 12), (1, 12), (2, 100), (3, 120), (4, 5), (5, 5), (6, 121), (7, 122), (8, 106), (9, 123), (10, 124)], false⟩
theorem ti125_ok : EntryOk Tryd.prog 125 ti125 := ⟨by kernel_rfl, ⟨by kernel_rfl, by kernel_rfl, by kernel_rfl⟩, .inr ⟨_, rfl⟩, rfl, rfl, fun h => by cases h⟩
def ti126 : TI := ⟨11, 48, .agg [.v (.int .u64 0), .v (.int .u64 0), .v (.int .u32 0), .v (.int .u8 0), .v (.int .u8 0), .v (.int .u8 0), .v (.int .u8 0), .v .nilFunc, .v (.pointer none), .v (.int .i32 0), .v (.int .i32 0)], .struct [(0, 12), (1, 12), (2, 100), (3, 120), (4, 5), (5, 5), (6, 121), (7, 122), (8, 106), (9, 123), (10, 124)], false⟩
theorem ti126_ok : EntryOk Tryd.prog 126 ti126 := ⟨by kernel_rfl, ⟨by kernel_rfl, by kernel_rfl, by kernel_rfl⟩, .inr ⟨_, rfl⟩, rfl, rfl, fun h => by cases h⟩
def tab : Tab := [(2, ti2), (3, ti3), (4, ti4), (5, ti5), (6, ti6), (7, ti7), (8, ti8), (9, ti9), (10, ti10), (11, ti11), (12, ti12), (13, ti13), (14, ti14), (15, ti15), (16, ti16), (17, ti17), (18, ti18), (19, ti19), (20, ti20), (21, ti21), (22, ti22), (33, ti33), (34, ti34), (35, ti35), (36, ti36), (45, ti45), (46, ti46), (61, ti61), (62, ti62), (69, ti69), (70, ti70), (78, ti78), (81, ti81), (84, ti84), (85, ti85), (92, ti92), (94, ti94), (95, ti95), (99, ti99), (100, ti100), (101, ti101), (106, ti106), (107, ti107), (108, ti108), (109, ti109), (111, ti111), (112, ti112), (114, ti114), (115, ti115), (116, ti116), (117, ti117), (118, ti118), (120, ti120), (121, ti121), (123, ti123), (124, ti124), (125, ti125), (126, ti126)]
theorem tab_ok : TabOk Tryd.prog tab := ⟨ti2_ok, ti3_ok, ti4_ok, ti5_ok, ti6_ok, ti7_ok, ti8_ok, ti9_ok, ti10_ok, ti11_ok, ti12_ok, ti13_ok, ti14_ok, ti15_ok, ti16_ok, ti17_ok, ti18_ok, ti19_ok, ti20_ok, ti21_ok, ti22_ok, ti33_ok, ti34_ok, ti35_ok, ti36_ok, ti45_ok, ti46_ok, ti61_ok, ti62_ok, ti69_ok, ti70_ok, ti78_ok, ti81_ok, ti84_ok, ti85_ok, ti92_ok, ti94_ok, ti95_ok, ti99_ok, ti100_ok, ti101_ok, ti106_ok, ti107_ok, ti108_ok, ti109_ok, ti111_ok, ti112_ok, ti114_ok, ti115_ok, ti116_ok, ti117_ok, ti118_ok, ti120_ok, ti121_ok, ti123_ok, ti124_ok, ti125_ok, ti126_ok, trivial⟩
end Go.Proofs.YtilejaehbgljbaaDoor
