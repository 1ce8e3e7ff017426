/- The types of the program, for the engine. Laid by a program of mine. -/
import Derived.Test.YtbdifnmadaggaaaProg
import Derived.Test.YtbdifnmadaggaaaEngG
namespace Go.Proofs.Ytbdifnmadaggaaa
open Go.Eng
set_option maxRecDepth 100000
def ti2 : TI := ⟨1, 8, .v (.int .i64 0), .int .i64, false⟩
theorem ti2_ok : EntryOk Try.prog 2 ti2 := ⟨by kernel_rfl, Try.underlying2, .inl rfl, rfl, rfl, fun h => by cases h⟩
def ti3 : TI := ⟨1, 8, .v (.int .i64 0), .int .i64, false⟩
theorem ti3_ok : EntryOk Try.prog 3 ti3 := ⟨by kernel_rfl, Try.underlying3, .inl rfl, rfl, rfl, fun h => by cases h⟩
def ti4 : TI := ⟨1, 1, .v (.bool false), .bool, false⟩
theorem ti4_ok : EntryOk Try.prog 4 ti4 := ⟨by kernel_rfl, Try.underlying4, .inl rfl, rfl, rfl, fun h => by cases h⟩
def ti5 : TI := ⟨1, 1, .v (.int .u8 0), .int .u8, false⟩
theorem ti5_ok : EntryOk Try.prog 5 ti5 := ⟨by kernel_rfl, Try.underlying5, .inl rfl, rfl, rfl, fun h => by cases h⟩
def ti6 : TI := ⟨1, 1, .v (.int .u8 0), .int .u8, false⟩
theorem ti6_ok : EntryOk Try.prog 6 ti6 := ⟨by kernel_rfl, Try.underlying6, .inl rfl, rfl, rfl, fun h => by cases h⟩
def ti7 : TI := ⟨4, 24, .agg [.v (.int .i64 0), .v (.int .i64 0), .v (.bool false), .v (.int .u8 0)], .struct [(0, 2), (1, 3), (2, 4), (3, 6)], false⟩
theorem ti7_ok : EntryOk Try.prog 7 ti7 := ⟨by kernel_rfl, ⟨by kernel_rfl, by kernel_rfl, by kernel_rfl⟩, .inr ⟨_, rfl⟩, rfl, rfl, fun h => by cases h⟩
def ti8 : TI := ⟨4, 24, .agg [.v (.int .i64 0), .v (.int .i64 0), .v (.bool false), .v (.int .u8 0)], .struct [(0, 2), (1, 3), (2, 4), (3, 6)], false⟩
theorem ti8_ok : EntryOk Try.prog 8 ti8 := ⟨by kernel_rfl, ⟨by kernel_rfl, by kernel_rfl, by kernel_rfl⟩, .inr ⟨_, rfl⟩, rfl, rfl, fun h => by cases h⟩
def ti9 : TI := ⟨1, 16, .v (.string ByteArray.empty), .str, false⟩
theorem ti9_ok : EntryOk Try.prog 9 ti9 := ⟨by kernel_rfl, Try.underlying9, .inl rfl, rfl, rfl, fun h => by cases h⟩
def ti10 : TI := ⟨1, 16, .v (.string ByteArray.empty), .str, false⟩
theorem ti10_ok : EntryOk Try.prog 10 ti10 := ⟨by kernel_rfl, Try.underlying10, .inl rfl, rfl, rfl, fun h => by cases h⟩
def ti11 : TI := ⟨1, 16, .v (.string ByteArray.empty), .str, false⟩
theorem ti11_ok : EntryOk Try.prog 11 ti11 := ⟨by kernel_rfl, Try.underlying11, .inl rfl, rfl, rfl, fun h => by cases h⟩
def ti12 : TI := ⟨1, 8, .v (.int .u64 0), .int .u64, false⟩
theorem ti12_ok : EntryOk Try.prog 12 ti12 := ⟨by kernel_rfl, Try.underlying12, .inl rfl, rfl, rfl, fun h => by cases h⟩
def ti13 : TI := ⟨2, 24, .agg [.v (.string ByteArray.empty), .v (.int .u64 0)], .struct [(0, 9), (1, 12)], false⟩
theorem ti13_ok : EntryOk Try.prog 13 ti13 := ⟨by kernel_rfl, ⟨by kernel_rfl, by kernel_rfl, by kernel_rfl⟩, .inr ⟨_, rfl⟩, rfl, rfl, fun h => by cases h⟩
def ti14 : TI := ⟨2, 24, .agg [.v (.string ByteArray.empty), .v (.int .u64 0)], .struct [(0, 9), (1, 12)], false⟩
theorem ti14_ok : EntryOk Try.prog 14 ti14 := ⟨by kernel_rfl, ⟨by kernel_rfl, by kernel_rfl, by kernel_rfl⟩, .inr ⟨_, rfl⟩, rfl, rfl, fun h => by cases h⟩
def ti15 : TI := ⟨1, 8, .v (.pointer none), .ptr 76, false⟩
theorem ti15_ok : EntryOk Try.prog 15 ti15 := ⟨by kernel_rfl, Try.underlying15, .inl rfl, rfl, rfl, fun h => by cases h⟩
def ti16 : TI := ⟨1, 8, .v (.pointer none), .ptr 79, false⟩
theorem ti16_ok : EntryOk Try.prog 16 ti16 := ⟨by kernel_rfl, Try.underlying16, .inl rfl, rfl, rfl, fun h => by cases h⟩
def ti17 : TI := ⟨1, 8, .v (.pointer none), .ptr 89, false⟩
theorem ti17_ok : EntryOk Try.prog 17 ti17 := ⟨by kernel_rfl, Try.underlying17, .inl rfl, rfl, rfl, fun h => by cases h⟩
def ti18 : TI := ⟨1, 8, .agg [.v (.pointer none)], .struct [(0, 17)], false⟩
theorem ti18_ok : EntryOk Try.prog 18 ti18 := ⟨by kernel_rfl, ⟨by kernel_rfl, by kernel_rfl, by kernel_rfl⟩, .inr ⟨_, rfl⟩, rfl, rfl, fun h => by cases h⟩
def ti19 : TI := ⟨1, 8, .agg [.v (.pointer none)], .struct [(0, 17)], false⟩
theorem ti19_ok : EntryOk Try.prog 19 ti19 := ⟨by kernel_rfl, ⟨by kernel_rfl, by kernel_rfl, by kernel_rfl⟩, .inr ⟨_, rfl⟩, rfl, rfl, fun h => by cases h⟩
def ti20 : TI := ⟨1, 16, .v .nilIface, .other, false⟩
theorem ti20_ok : EntryOk Try.prog 20 ti20 := ⟨by kernel_rfl, (by show match Try.prog.underlying 20 with | some (.struct _) | some (.array _ _) | none => False | _ => True; rw [Try.underlying20]; trivial), .inl rfl, rfl, rfl, fun h => by cases h⟩
def ti21 : TI := ⟨1, 4, .v (.int .i32 0), .int .i32, false⟩
theorem ti21_ok : EntryOk Try.prog 21 ti21 := ⟨by kernel_rfl, Try.underlying21, .inl rfl, rfl, rfl, fun h => by cases h⟩
def ti22 : TI := ⟨1, 8, .v (.int .i64 0), .int .i64, false⟩
theorem ti22_ok : EntryOk Try.prog 22 ti22 := ⟨by kernel_rfl, Try.underlying22, .inl rfl, rfl, rfl, fun h => by cases h⟩
def ti23 : TI := ⟨3, 24, .agg [.v (.int .i64 0), .v (.int .i64 0), .v (.int .i64 0)], .struct [(0, 22), (1, 3), (2, 3)], true⟩
theorem ti23_ok : EntryOk Try.prog 23 ti23 := ⟨by kernel_rfl, ⟨by kernel_rfl, by kernel_rfl, by kernel_rfl⟩, .inr ⟨_, rfl⟩, rfl, rfl, fun _ => ⟨by kernel_rfl, by kernel_rfl, by kernel_rfl⟩⟩
def ti24 : TI := ⟨3, 24, .agg [.v (.int .i64 0), .v (.int .i64 0), .v (.int .i64 0)], .struct [(0, 22), (1, 3), (2, 3)], true⟩
theorem ti24_ok : EntryOk Try.prog 24 ti24 := ⟨by kernel_rfl, ⟨by kernel_rfl, by kernel_rfl, by kernel_rfl⟩, .inr ⟨_, rfl⟩, rfl, rfl, fun _ => ⟨by kernel_rfl, by kernel_rfl, by kernel_rfl⟩⟩
def ti25 : TI := ⟨2, 16, .agg [.v (.int .i64 0), .v (.int .i64 0)], .struct [(0, 3), (1, 3)], true⟩
theorem ti25_ok : EntryOk Try.prog 25 ti25 := ⟨by kernel_rfl, ⟨by kernel_rfl, by kernel_rfl, by kernel_rfl⟩, .inr ⟨_, rfl⟩, rfl, rfl, fun _ => ⟨by kernel_rfl, by kernel_rfl, by kernel_rfl⟩⟩
def ti26 : TI := ⟨2, 16, .agg [.v (.int .i64 0), .v (.int .i64 0)], .struct [(0, 3), (1, 3)], true⟩
theorem ti26_ok : EntryOk Try.prog 26 ti26 := ⟨by kernel_rfl, ⟨by kernel_rfl, by kernel_rfl, by kernel_rfl⟩, .inr ⟨_, rfl⟩, rfl, rfl, fun _ => ⟨by kernel_rfl, by kernel_rfl, by kernel_rfl⟩⟩
def ti27 : TI := ⟨1, 8, .v (.int .i64 0), .int .i64, false⟩
theorem ti27_ok : EntryOk Try.prog 27 ti27 := ⟨by kernel_rfl, Try.underlying27, .inl rfl, rfl, rfl, fun h => by cases h⟩
def ti28 : TI := ⟨1, 8, .v (.int .i64 0), .int .i64, false⟩
theorem ti28_ok : EntryOk Try.prog 28 ti28 := ⟨by kernel_rfl, Try.underlying28, .inl rfl, rfl, rfl, fun h => by cases h⟩
def ti42 : TI := ⟨4, 32, .agg [.v (.int .i64 0), .v (.int .i64 0), .v (.int .i64 0), .v (.int .i64 0)], .struct [(0, 3), (1, 3), (2, 3), (3, 3)], true⟩
theorem ti42_ok : EntryOk Try.prog 42 ti42 := ⟨by kernel_rfl, ⟨by kernel_rfl, by kernel_rfl, by kernel_rfl⟩, .inr ⟨_, rfl⟩, rfl, rfl, fun _ => ⟨by kernel_rfl, by kernel_rfl, by kernel_rfl⟩⟩
def ti43 : TI := ⟨4, 32, .agg [.v (.int .i64 0), .v (.int .i64 0), .v (.int .i64 0), .v (.int .i64 0)], .struct [(0, 3), (1, 3), (2, 3), (3, 3)], true⟩
theorem ti43_ok : EntryOk Try.prog 43 ti43 := ⟨by kernel_rfl, ⟨by kernel_rfl, by kernel_rfl, by kernel_rfl⟩, .inr ⟨_, rfl⟩, rfl, rfl, fun _ => ⟨by kernel_rfl, by kernel_rfl, by kernel_rfl⟩⟩
def ti61 : TI := ⟨1, 8, .v (.pointer none), .ptr 3, false⟩
theorem ti61_ok : EntryOk Try.prog 61 ti61 := ⟨by kernel_rfl, Try.underlying61, .inl rfl, rfl, rfl, fun h => by cases h⟩
def ti67 : TI := ⟨2, 16, .agg [.v (.int .i64 0), .v (.int .i64 0)], .struct [(0, 3), (1, 3)], true⟩
theorem ti67_ok : EntryOk Try.prog 67 ti67 := ⟨by kernel_rfl, ⟨by kernel_rfl, by kernel_rfl, by kernel_rfl⟩, .inr ⟨_, rfl⟩, rfl, rfl, fun _ => ⟨by kernel_rfl, by kernel_rfl, by kernel_rfl⟩⟩
def ti68 : TI := ⟨2, 16, .agg [.v (.int .i64 0), .v (.int .i64 0)], .struct [(0, 3), (1, 3)], true⟩
theorem ti68_ok : EntryOk Try.prog 68 ti68 := ⟨by kernel_rfl, ⟨by kernel_rfl, by kernel_rfl, by kernel_rfl⟩, .inr ⟨_, rfl⟩, rfl, rfl, fun _ => ⟨by kernel_rfl, by kernel_rfl, by kernel_rfl⟩⟩
def ti75 : TI := ⟨4, 40, .agg [.v (.pointer none), .v (.pointer none), .v (.pointer none), .v (.string ByteArray.empty)], .struct [(0, 17), (1, 17), (2, 17), (3, 9)], false⟩
theorem ti75_ok : EntryOk Try.prog 75 ti75 := ⟨by kernel_rfl, ⟨by kernel_rfl, by kernel_rfl, by kernel_rfl⟩, .inr ⟨_, rfl⟩, rfl, rfl, fun h => by cases h⟩
def ti76 : TI := ⟨4, 40, .agg [.v (.pointer none), .v (.pointer none), .v (.pointer none), .v (.string ByteArray.empty)], .struct [(0, 17), (1, 17), (2, 17), (3, 9)], false⟩
theorem ti76_ok : EntryOk Try.prog 76 ti76 := ⟨by kernel_rfl, ⟨by kernel_rfl, by kernel_rfl, by kernel_rfl⟩, .inr ⟨_, rfl⟩, rfl, rfl, fun h => by cases h⟩
def ti77 : TI := ⟨0, 0, .agg [], .arr 0 16, false⟩
theorem ti77_ok : EntryOk Try.prog 77 ti77 := ⟨by kernel_rfl, Try.underlying77, .inr ⟨_, rfl⟩, rfl, rfl, fun h => by cases h⟩
def ti78 : TI := ⟨0, 0, .agg [], .struct [(0, 77)], false⟩
theorem ti78_ok : EntryOk Try.prog 78 ti78 := ⟨by kernel_rfl, ⟨by kernel_rfl, by kernel_rfl, by kernel_rfl⟩, .inr ⟨_, rfl⟩, rfl, rfl, fun h => by cases h⟩
def ti79 : TI := ⟨0, 0, .agg [], .struct [(0, 77)], false⟩
theorem ti79_ok : EntryOk Try.prog 79 ti79 := ⟨by kernel_rfl, ⟨by kernel_rfl, by kernel_rfl, by kernel_rfl⟩, .inr ⟨_, rfl⟩, rfl, rfl, fun h => by cases h⟩
def ti81 : TI := ⟨1, 4, .v (.int .u32 0), .int .u32, false⟩
theorem ti81_ok : EntryOk Try.prog 81 ti81 := ⟨by kernel_rfl, Try.underlying81, .inl rfl, rfl, rfl, fun h => by cases h⟩
def ti82 : TI := ⟨1, 1, .v (.int .u8 0), .int .u8, false⟩
theorem ti82_ok : EntryOk Try.prog 82 ti82 := ⟨by kernel_rfl, Try.underlying82, .inl rfl, rfl, rfl, fun h => by cases h⟩
def ti83 : TI := ⟨1, 1, .v (.int .u8 0), .int .u8, false⟩
theorem ti83_ok : EntryOk Try.prog 83 ti83 := ⟨by kernel_rfl, Try.underlying83, .inl rfl, rfl, rfl, fun h => by cases h⟩
def ti85 : TI := ⟨1, 8, .v (.pointer none), .ptr 5, false⟩
theorem ti85_ok : EntryOk Try.prog 85 ti85 := ⟨by kernel_rfl, Try.underlying85, .inl rfl, rfl, rfl, fun h => by cases h⟩
def ti86 : TI := ⟨1, 4, .v (.int .i32 0), .int .i32, false⟩
theorem ti86_ok : EntryOk Try.prog 86 ti86 := ⟨by kernel_rfl, Try.underlying86, .inl rfl, rfl, rfl, fun h => by cases h⟩
def ti87 : TI := ⟨1, 4, .v (.int .i32 0), .int .i32, false⟩
theorem ti87_ok : EntryOk Try.prog 87 ti87 := ⟨by kernel_rfl, Try.underlying87, .inl rfl, rfl, rfl, fun h => by cases h⟩
def ti88 : TI := ⟨11, 48, .agg [.v (.int .u64 0), .v (.int .u64 0), .v (.int .u32 0), .v (.int .u8 0), .v (.int .u8 0), .v (.int .u8 0), .v (.int .u8 0), .v .nilFunc, .v (.pointer none), .v (.int .i32 0), .v (.int .i32 0)], .struct [(0, 12), (1, 12), (2, 81), (3, 82), (4, 5), (5, 5), (6, 83), (7, 84), (8, 85), (9, 86), (10, 87)], false⟩
theorem ti88_ok : EntryOk Try.prog 88 ti88 := ⟨by kernel_rfl, ⟨by kernel_rfl, by kernel_rfl, by kernel_rfl⟩, .inr ⟨_, rfl⟩, rfl, rfl, fun h => by cases h⟩
def ti89 : TI := ⟨11, 48, .agg [.v (.int .u64 0), .v (.int .u64 0), .v (.int .u32 0), .v (.int .u8 0), .v (.int .u8 0), .v (.int .u8 0), .v (.int .u8 0), .v .nilFunc, .v (.pointer none), .v (.int .i32 0), .v (.int .i32 0)], .struct [(0, 12), (1, 12), (2, 81), (3, 82), (4, 5), (5, 5), (6, 83), (7, 84), (8, 85), (9, 86), (10, 87)], false⟩
theorem ti89_ok : EntryOk Try.prog 89 ti89 := ⟨by kernel_rfl, ⟨by kernel_rfl, by kernel_rfl, by kernel_rfl⟩, .inr ⟨_, rfl⟩, rfl, rfl, fun h => by cases h⟩
def tab : Tab := [(2, ti2), (3, ti3), (4, ti4), (5, ti5), (6, ti6), (7, ti7), (8, ti8), (9, ti9), (10, ti10), (11, ti11), (12, ti12), (13, ti13), (14, ti14), (15, ti15), (16, ti16), (17, ti17), (18, ti18), (19, ti19), (20, ti20), (21, ti21), (22, ti22), (23, ti23), (24, ti24), (25, ti25), (26, ti26), (27, ti27), (28, ti28), (42, ti42), (43, ti43), (61, ti61), (67, ti67), (68, ti68), (75, ti75), (76, ti76), (77, ti77), (78, ti78), (79, ti79), (81, ti81), (82, ti82), (83, ti83), (85, ti85), (86, ti86), (87, ti87), (88, ti88), (89, ti89)]
theorem tab_ok : TabOk Try.prog tab := ⟨ti2_ok, ti3_ok, ti4_ok, ti5_ok, ti6_ok, ti7_ok, ti8_ok, ti9_ok, ti10_ok, ti11_ok, ti12_ok, ti13_ok, ti14_ok, ti15_ok, ti16_ok, ti17_ok, ti18_ok, ti19_ok, ti20_ok, ti21_ok, ti22_ok, ti23_ok, ti24_ok, ti25_ok, ti26_ok, ti27_ok, ti28_ok, ti42_ok, ti43_ok, ti61_ok, ti67_ok, ti68_ok, ti75_ok, ti76_ok, ti77_ok, ti78_ok, ti79_ok, ti81_ok, ti82_ok, ti83_ok, ti85_ok, ti86_ok, ti87_ok, ti88_ok, ti89_ok, trivial⟩
end Go.Proofs.Ytbdifnmadaggaaa
