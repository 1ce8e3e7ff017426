import Derived.Test.YtjnehpljhnlbfaaProg
import Derived.Test.YtjnehpljhnlbfaaEngG
namespace Go.Proofs.Ytjnehpljhnlbfaa
open Go.Eng
set_option maxRecDepth 100000
def ti1 : TI := ⟨1, 8, .v .nilFunc, .other, false⟩
theorem ti1_ok : EntryOk Try.prog 1 ti1 := ⟨by kernel_rfl, (by show match Try.prog.underlying 1 with | some (.struct _) | some (.array _ _) | none => False | _ => True; rw [Try.underlying1]; trivial), .inl rfl, rfl, rfl, fun h => by cases h⟩
def ti2 : TI := ⟨1, 8, .v (.int .i64 0), .int .i64, false⟩
theorem ti2_ok : EntryOk Try.prog 2 ti2 := ⟨by kernel_rfl, Try.underlying2, .inl rfl, rfl, rfl, fun h => by cases h⟩
def ti3 : TI := ⟨1, 8, .v (.int .i64 0), .int .i64, false⟩
theorem ti3_ok : EntryOk Try.prog 3 ti3 := ⟨by kernel_rfl, Try.underlying3, .inl rfl, rfl, rfl, fun h => by cases h⟩
def ti4 : TI := ⟨1, 1, .v (.bool false), .bool, false⟩
theorem ti4_ok : EntryOk Try.prog 4 ti4 := ⟨by kernel_rfl, Try.underlying4, .inl rfl, rfl, rfl, fun h => by cases h⟩
def ti5 : TI := ⟨1, 1, .v (.int .u8 0), .int .u8, false⟩
theorem ti5_ok : EntryOk Try.prog 5 ti5 := ⟨by kernel_rfl, Try.underlying5, .inl rfl, rfl, rfl, fun h => by cases h⟩
def ti6 : TI := ⟨1, 1, .v (.int .u8 0), .int .u8, false⟩
theorem ti6_ok : EntryOk Try.prog 6 ti6 := ⟨by kernel_rfl, Try.underlying6, .inl rfl, rfl, rfl, fun h => by cases h⟩
def ti7 : TI := ⟨4, 24, .agg [.v (.int .i64 0), .v (.int .i64 0), .v (.bool false), .v (.int .u8 0)], .struct [(0, 2), (1, 3), (2, 4), (3, 6)], false⟩
theorem ti7_ok : EntryOk Try.prog 7 ti7 := ⟨by kernel_rfl, ⟨by kernel_rfl, by kernel_rfl, by kernel_rfl⟩, .inr ⟨_, rfl⟩, rfl, rfl, fun h => by cases h⟩
def ti8 : TI := ⟨4, 24, .agg [.v (.int .i64 0), .v (.int .i64 0), .v (.bool false), .v (.int .u8 0)], .struct [(0, 2), (1, 3), (2, 4), (3, 6)], false⟩
theorem ti8_ok : EntryOk Try.prog 8 ti8 := ⟨by kernel_rfl, ⟨by kernel_rfl, by kernel_rfl, by kernel_rfl⟩, .inr ⟨_, rfl⟩, rfl, rfl, fun h => by cases h⟩
def ti9 : TI := ⟨1, 16, .v (.string ByteArray.empty), .str, false⟩
theorem ti9_ok : EntryOk Try.prog 9 ti9 := ⟨by kernel_rfl, Try.underlying9, .inl rfl, rfl, rfl, fun h => by cases h⟩
def ti10 : TI := ⟨1, 16, .v (.string ByteArray.empty), .str, false⟩
theorem ti10_ok : EntryOk Try.prog 10 ti10 := ⟨by kernel_rfl, Try.underlying10, .inl rfl, rfl, rfl, fun h => by cases h⟩
def ti11 : TI := ⟨1, 16, .v (.string ByteArray.empty), .str, false⟩
theorem ti11_ok : EntryOk Try.prog 11 ti11 := ⟨by kernel_rfl, Try.underlying11, .inl rfl, rfl, rfl, fun h => by cases h⟩
def ti12 : TI := ⟨1, 8, .v (.int .u64 0), .int .u64, false⟩
theorem ti12_ok : EntryOk Try.prog 12 ti12 := ⟨by kernel_rfl, Try.underlying12, .inl rfl, rfl, rfl, fun h => by cases h⟩
def ti13 : TI := ⟨2, 24, .agg [.v (.string ByteArray.empty), .v (.int .u64 0)], .struct [(0, 9), (1, 12)], false⟩
theorem ti13_ok : EntryOk Try.prog 13 ti13 := ⟨by kernel_rfl, ⟨by kernel_rfl, by kernel_rfl, by kernel_rfl⟩, .inr ⟨_, rfl⟩, rfl, rfl, fun h => by cases h⟩
def ti14 : TI := ⟨2, 24, .agg [.v (.string ByteArray.empty), .v (.int .u64 0)], .struct [(0, 9), (1, 12)], false⟩
theorem ti14_ok : EntryOk Try.prog 14 ti14 := ⟨by kernel_rfl, ⟨by kernel_rfl, by kernel_rfl, by kernel_rfl⟩, .inr ⟨_, rfl⟩, rfl, rfl, fun h => by cases h⟩
def ti15 : TI := ⟨1, 8, .v (.pointer none), .ptr 149, false⟩
theorem ti15_ok : EntryOk Try.prog 15 ti15 := ⟨by kernel_rfl, Try.underlying15, .inl rfl, rfl, rfl, fun h => by cases h⟩
def ti16 : TI := ⟨1, 8, .v (.pointer none), .ptr 152, false⟩
theorem ti16_ok : EntryOk Try.prog 16 ti16 := ⟨by kernel_rfl, Try.underlying16, .inl rfl, rfl, rfl, fun h => by cases h⟩
def ti17 : TI := ⟨1, 8, .v (.pointer none), .ptr 160, false⟩
theorem ti17_ok : EntryOk Try.prog 17 ti17 := ⟨by kernel_rfl, Try.underlying17, .inl rfl, rfl, rfl, fun h => by cases h⟩
def ti18 : TI := ⟨1, 8, .agg [.v (.pointer none)], .struct [(0, 17)], false⟩
theorem ti18_ok : EntryOk Try.prog 18 ti18 := ⟨by kernel_rfl, ⟨by kernel_rfl, by kernel_rfl, by kernel_rfl⟩, .inr ⟨_, rfl⟩, rfl, rfl, fun h => by cases h⟩
def ti19 : TI := ⟨1, 8, .agg [.v (.pointer none)], .struct [(0, 17)], false⟩
theorem ti19_ok : EntryOk Try.prog 19 ti19 := ⟨by kernel_rfl, ⟨by kernel_rfl, by kernel_rfl, by kernel_rfl⟩, .inr ⟨_, rfl⟩, rfl, rfl, fun h => by cases h⟩
def ti20 : TI := ⟨1, 16, .v .nilIface, .iface, false⟩
theorem ti20_ok : EntryOk Try.prog 20 ti20 := ⟨by kernel_rfl, (by show match Try.prog.underlying 20 with | some (.interface _) => True | _ => False; rw [Try.underlying20]; trivial), .inl rfl, rfl, rfl, fun h => by cases h⟩
def ti21 : TI := ⟨1, 4, .v (.int .i32 0), .int .i32, false⟩
theorem ti21_ok : EntryOk Try.prog 21 ti21 := ⟨by kernel_rfl, Try.underlying21, .inl rfl, rfl, rfl, fun h => by cases h⟩
def ti22 : TI := ⟨1, 24, .v (.slice none 0 0), .slice 31, false⟩
theorem ti22_ok : EntryOk Try.prog 22 ti22 := ⟨by kernel_rfl, Try.underlying22, .inl rfl, rfl, rfl, fun h => by cases h⟩
def ti23 : TI := ⟨2, 16, .agg [.v (.int .i64 0), .v (.int .i64 0)], .struct [(0, 3), (1, 3)], true⟩
theorem ti23_ok : EntryOk Try.prog 23 ti23 := ⟨by kernel_rfl, ⟨by kernel_rfl, by kernel_rfl, by kernel_rfl⟩, .inr ⟨_, rfl⟩, rfl, rfl, fun _ => ⟨by kernel_rfl, by kernel_rfl, by kernel_rfl⟩⟩
def ti24 : TI := ⟨2, 16, .agg [.v (.int .i64 0), .v (.int .i64 0)], .struct [(0, 3), (1, 3)], true⟩
theorem ti24_ok : EntryOk Try.prog 24 ti24 := ⟨by kernel_rfl, ⟨by kernel_rfl, by kernel_rfl, by kernel_rfl⟩, .inr ⟨_, rfl⟩, rfl, rfl, fun _ => ⟨by kernel_rfl, by kernel_rfl, by kernel_rfl⟩⟩
def ti25 : TI := ⟨1, 8, .v (.pointer none), .ptr 75, false⟩
theorem ti25_ok : EntryOk Try.prog 25 ti25 := ⟨by kernel_rfl, Try.underlying25, .inl rfl, rfl, rfl, fun h => by cases h⟩
def ti26 : TI := ⟨1, 8, .v .nilFunc, .other, false⟩
theorem ti26_ok : EntryOk Try.prog 26 ti26 := ⟨by kernel_rfl, (by show match Try.prog.underlying 26 with | some (.struct _) | some (.array _ _) | none => False | _ => True; rw [Try.underlying26]; trivial), .inl rfl, rfl, rfl, fun h => by cases h⟩
def ti27 : TI := ⟨1, 8, .v .nilFunc, .other, false⟩
theorem ti27_ok : EntryOk Try.prog 27 ti27 := ⟨by kernel_rfl, (by show match Try.prog.underlying 27 with | some (.struct _) | some (.array _ _) | none => False | _ => True; rw [Try.underlying27]; trivial), .inl rfl, rfl, rfl, fun h => by cases h⟩
def ti28 : TI := ⟨1, 24, .v (.slice none 0 0), .slice 3, false⟩
theorem ti28_ok : EntryOk Try.prog 28 ti28 := ⟨by kernel_rfl, Try.underlying28, .inl rfl, rfl, rfl, fun h => by cases h⟩
def ti29 : TI := ⟨1, 8, .v .nilFunc, .other, false⟩
theorem ti29_ok : EntryOk Try.prog 29 ti29 := ⟨by kernel_rfl, (by show match Try.prog.underlying 29 with | some (.struct _) | some (.array _ _) | none => False | _ => True; rw [Try.underlying29]; trivial), .inl rfl, rfl, rfl, fun h => by cases h⟩
def ti30 : TI := ⟨4, 32, .agg [.v (.int .i64 0), .v (.int .i64 0), .v (.int .i64 0), .v (.int .i64 0)], .struct [(0, 3), (1, 3), (2, 3), (3, 3)], true⟩
theorem ti30_ok : EntryOk Try.prog 30 ti30 := ⟨by kernel_rfl, ⟨by kernel_rfl, by kernel_rfl, by kernel_rfl⟩, .inr ⟨_, rfl⟩, rfl, rfl, fun _ => ⟨by kernel_rfl, by kernel_rfl, by kernel_rfl⟩⟩
def ti31 : TI := ⟨4, 32, .agg [.v (.int .i64 0), .v (.int .i64 0), .v (.int .i64 0), .v (.int .i64 0)], .struct [(0, 3), (1, 3), (2, 3), (3, 3)], true⟩
theorem ti31_ok : EntryOk Try.prog 31 ti31 := ⟨by kernel_rfl, ⟨by kernel_rfl, by kernel_rfl, by kernel_rfl⟩, .inr ⟨_, rfl⟩, rfl, rfl, fun _ => ⟨by kernel_rfl, by kernel_rfl, by kernel_rfl⟩⟩
def ti32 : TI := ⟨1, 8, .v (.int .i64 0), .int .i64, false⟩
theorem ti32_ok : EntryOk Try.prog 32 ti32 := ⟨by kernel_rfl, Try.underlying32, .inl rfl, rfl, rfl, fun h => by cases h⟩
def ti34 : TI := ⟨1, 8, .v .nilFunc, .other, false⟩
theorem ti34_ok : EntryOk Try.prog 34 ti34 := ⟨by kernel_rfl, (by show match Try.prog.underlying 34 with | some (.struct _) | some (.array _ _) | none => False | _ => True; rw [Try.underlying34]; trivial), .inl rfl, rfl, rfl, fun h => by cases h⟩
def ti35 : TI := ⟨1, 8, .v .nilFunc, .other, false⟩
theorem ti35_ok : EntryOk Try.prog 35 ti35 := ⟨by kernel_rfl, (by show match Try.prog.underlying 35 with | some (.struct _) | some (.array _ _) | none => False | _ => True; rw [Try.underlying35]; trivial), .inl rfl, rfl, rfl, fun h => by cases h⟩
def ti36 : TI := ⟨1, 8, .v .nilFunc, .other, false⟩
theorem ti36_ok : EntryOk Try.prog 36 ti36 := ⟨by kernel_rfl, (by show match Try.prog.underlying 36 with | some (.struct _) | some (.array _ _) | none => False | _ => True; rw [Try.underlying36]; trivial), .inl rfl, rfl, rfl, fun h => by cases h⟩
def ti37 : TI := ⟨1, 8, .v .nilFunc, .other, false⟩
theorem ti37_ok : EntryOk Try.prog 37 ti37 := ⟨by kernel_rfl, (by show match Try.prog.underlying 37 with | some (.struct _) | some (.array _ _) | none => False | _ => True; rw [Try.underlying37]; trivial), .inl rfl, rfl, rfl, fun h => by cases h⟩
def ti38 : TI := ⟨1, 8, .v .nilFunc, .other, false⟩
theorem ti38_ok : EntryOk Try.prog 38 ti38 := ⟨by kernel_rfl, (by show match Try.prog.underlying 38 with | some (.struct _) | some (.array _ _) | none => False | _ => True; rw [Try.underlying38]; trivial), .inl rfl, rfl, rfl, fun h => by cases h⟩
def ti40 : TI := ⟨1, 8, .v .nilFunc, .other, false⟩
theorem ti40_ok : EntryOk Try.prog 40 ti40 := ⟨by kernel_rfl, (by show match Try.prog.underlying 40 with | some (.struct _) | some (.array _ _) | none => False | _ => True; rw [Try.underlying40]; trivial), .inl rfl, rfl, rfl, fun h => by cases h⟩
def ti41 : TI := ⟨1, 8, .v .nilFunc, .other, false⟩
theorem ti41_ok : EntryOk Try.prog 41 ti41 := ⟨by kernel_rfl, (by show match Try.prog.underlying 41 with | some (.struct _) | some (.array _ _) | none => False | _ => True; rw [Try.underlying41]; trivial), .inl rfl, rfl, rfl, fun h => by cases h⟩
def ti42 : TI := ⟨1, 8, .v (.int .i64 0), .int .i64, false⟩
theorem ti42_ok : EntryOk Try.prog 42 ti42 := ⟨by kernel_rfl, Try.underlying42, .inl rfl, rfl, rfl, fun h => by cases h⟩
def ti43 : TI := ⟨3, 24, .agg [.v (.int .i64 0), .v (.int .i64 0), .v (.int .i64 0)], .struct [(0, 42), (1, 3), (2, 3)], true⟩
theorem ti43_ok : EntryOk Try.prog 43 ti43 := ⟨by kernel_rfl, ⟨by kernel_rfl, by kernel_rfl, by kernel_rfl⟩, .inr ⟨_, rfl⟩, rfl, rfl, fun _ => ⟨by kernel_rfl, by kernel_rfl, by kernel_rfl⟩⟩
def ti44 : TI := ⟨3, 24, .agg [.v (.int .i64 0), .v (.int .i64 0), .v (.int .i64 0)], .struct [(0, 42), (1, 3), (2, 3)], true⟩
theorem ti44_ok : EntryOk Try.prog 44 ti44 := ⟨by kernel_rfl, ⟨by kernel_rfl, by kernel_rfl, by kernel_rfl⟩, .inr ⟨_, rfl⟩, rfl, rfl, fun _ => ⟨by kernel_rfl, by kernel_rfl, by kernel_rfl⟩⟩
def ti45 : TI := ⟨1, 8, .v .nilFunc, .other, false⟩
theorem ti45_ok : EntryOk Try.prog 45 ti45 := ⟨by kernel_rfl, (by show match Try.prog.underlying 45 with | some (.struct _) | some (.array _ _) | none => False | _ => True; rw [Try.underlying45]; trivial), .inl rfl, rfl, rfl, fun h => by cases h⟩
def ti47 : TI := ⟨1, 8, .v .nilFunc, .other, false⟩
theorem ti47_ok : EntryOk Try.prog 47 ti47 := ⟨by kernel_rfl, (by show match Try.prog.underlying 47 with | some (.struct _) | some (.array _ _) | none => False | _ => True; rw [Try.underlying47]; trivial), .inl rfl, rfl, rfl, fun h => by cases h⟩
def ti49 : TI := ⟨1, 8, .v .nilFunc, .other, false⟩
theorem ti49_ok : EntryOk Try.prog 49 ti49 := ⟨by kernel_rfl, (by show match Try.prog.underlying 49 with | some (.struct _) | some (.array _ _) | none => False | _ => True; rw [Try.underlying49]; trivial), .inl rfl, rfl, rfl, fun h => by cases h⟩
def ti51 : TI := ⟨1, 8, .v .nilFunc, .other, false⟩
theorem ti51_ok : EntryOk Try.prog 51 ti51 := ⟨by kernel_rfl, (by show match Try.prog.underlying 51 with | some (.struct _) | some (.array _ _) | none => False | _ => True; rw [Try.underlying51]; trivial), .inl rfl, rfl, rfl, fun h => by cases h⟩
def ti52 : TI := ⟨1, 8, .v .nilFunc, .other, false⟩
theorem ti52_ok : EntryOk Try.prog 52 ti52 := ⟨by kernel_rfl, (by show match Try.prog.underlying 52 with | some (.struct _) | some (.array _ _) | none => False | _ => True; rw [Try.underlying52]; trivial), .inl rfl, rfl, rfl, fun h => by cases h⟩
def ti53 : TI := ⟨1, 8, .v .nilFunc, .other, false⟩
theorem ti53_ok : EntryOk Try.prog 53 ti53 := ⟨by kernel_rfl, (by show match Try.prog.underlying 53 with | some (.struct _) | some (.array _ _) | none => False | _ => True; rw [Try.underlying53]; trivial), .inl rfl, rfl, rfl, fun h => by cases h⟩
def ti54 : TI := ⟨1, 8, .v .nilFunc, .other, false⟩
theorem ti54_ok : EntryOk Try.prog 54 ti54 := ⟨by kernel_rfl, (by show match Try.prog.underlying 54 with | some (.struct _) | some (.array _ _) | none => False | _ => True; rw [Try.underlying54]; trivial), .inl rfl, rfl, rfl, fun h => by cases h⟩
def ti55 : TI := ⟨1, 8, .v .nilFunc, .other, false⟩
theorem ti55_ok : EntryOk Try.prog 55 ti55 := ⟨by kernel_rfl, (by show match Try.prog.underlying 55 with | some (.struct _) | some (.array _ _) | none => False | _ => True; rw [Try.underlying55]; trivial), .inl rfl, rfl, rfl, fun h => by cases h⟩
def ti56 : TI := ⟨1, 8, .v .nilFunc, .other, false⟩
theorem ti56_ok : EntryOk Try.prog 56 ti56 := ⟨by kernel_rfl, (by show match Try.prog.underlying 56 with | some (.struct _) | some (.array _ _) | none => False | _ => True; rw [Try.underlying56]; trivial), .inl rfl, rfl, rfl, fun h => by cases h⟩
def ti57 : TI := ⟨1, 8, .v (.int .u64 0), .int .u64, false⟩
theorem ti57_ok : EntryOk Try.prog 57 ti57 := ⟨by kernel_rfl, Try.underlying57, .inl rfl, rfl, rfl, fun h => by cases h⟩
def ti58 : TI := ⟨1, 8, .v .nilFunc, .other, false⟩
theorem ti58_ok : EntryOk Try.prog 58 ti58 := ⟨by kernel_rfl, (by show match Try.prog.underlying 58 with | some (.struct _) | some (.array _ _) | none => False | _ => True; rw [Try.underlying58]; trivial), .inl rfl, rfl, rfl, fun h => by cases h⟩
def ti59 : TI := ⟨1, 8, .v .nilFunc, .other, false⟩
theorem ti59_ok : EntryOk Try.prog 59 ti59 := ⟨by kernel_rfl, (by show match Try.prog.underlying 59 with | some (.struct _) | some (.array _ _) | none => False | _ => True; rw [Try.underlying59]; trivial), .inl rfl, rfl, rfl, fun h => by cases h⟩
def ti60 : TI := ⟨1, 8, .v .nilFunc, .other, false⟩
theorem ti60_ok : EntryOk Try.prog 60 ti60 := ⟨by kernel_rfl, (by show match Try.prog.underlying 60 with | some (.struct _) | some (.array _ _) | none => False | _ => True; rw [Try.underlying60]; trivial), .inl rfl, rfl, rfl, fun h => by cases h⟩
def ti61 : TI := ⟨1, 24, .v (.slice none 0 0), .slice 68, false⟩
theorem ti61_ok : EntryOk Try.prog 61 ti61 := ⟨by kernel_rfl, Try.underlying61, .inl rfl, rfl, rfl, fun h => by cases h⟩
def ti62 : TI := ⟨1, 24, .v (.slice none 0 0), .slice 115, false⟩
theorem ti62_ok : EntryOk Try.prog 62 ti62 := ⟨by kernel_rfl, Try.underlying62, .inl rfl, rfl, rfl, fun h => by cases h⟩
def ti63 : TI := ⟨1, 24, .agg [.v (.slice none 0 0)], .struct [(0, 62)], false⟩
theorem ti63_ok : EntryOk Try.prog 63 ti63 := ⟨by kernel_rfl, ⟨by kernel_rfl, by kernel_rfl, by kernel_rfl⟩, .inr ⟨_, rfl⟩, rfl, rfl, fun h => by cases h⟩
def ti64 : TI := ⟨1, 24, .agg [.v (.slice none 0 0)], .struct [(0, 62)], false⟩
theorem ti64_ok : EntryOk Try.prog 64 ti64 := ⟨by kernel_rfl, ⟨by kernel_rfl, by kernel_rfl, by kernel_rfl⟩, .inr ⟨_, rfl⟩, rfl, rfl, fun h => by cases h⟩
def ti66 : TI := ⟨1, 8, .v .nilFunc, .other, false⟩
theorem ti66_ok : EntryOk Try.prog 66 ti66 := ⟨by kernel_rfl, (by show match Try.prog.underlying 66 with | some (.struct _) | some (.array _ _) | none => False | _ => True; rw [Try.underlying66]; trivial), .inl rfl, rfl, rfl, fun h => by cases h⟩
def ti67 : TI := ⟨11, 88, .agg [.v (.int .i64 0), .v (.int .i64 0), .v (.int .i64 0), .v (.int .i64 0), .v (.int .i64 0), .v (.int .i64 0), .v (.int .i64 0), .v (.int .i64 0), .v (.int .i64 0), .v (.int .i64 0), .v (.int .i64 0)], .struct [(0, 3), (1, 3), (2, 31), (6, 24), (8, 44)], true⟩
theorem ti67_ok : EntryOk Try.prog 67 ti67 := ⟨by kernel_rfl, ⟨by kernel_rfl, by kernel_rfl, by kernel_rfl⟩, .inr ⟨_, rfl⟩, rfl, rfl, fun _ => ⟨by kernel_rfl, by kernel_rfl, by kernel_rfl⟩⟩
def ti68 : TI := ⟨11, 88, .agg [.v (.int .i64 0), .v (.int .i64 0), .v (.int .i64 0), .v (.int .i64 0), .v (.int .i64 0), .v (.int .i64 0), .v (.int .i64 0), .v (.int .i64 0), .v (.int .i64 0), .v (.int .i64 0), .v (.int .i64 0)], .struct [(0, 3), (1, 3), (2, 31), (6, 24), (8, 44)], true⟩
theorem ti68_ok : EntryOk Try.prog 68 ti68 := ⟨by kernel_rfl, ⟨by kernel_rfl, by kernel_rfl, by kernel_rfl⟩, .inr ⟨_, rfl⟩, rfl, rfl, fun _ => ⟨by kernel_rfl, by kernel_rfl, by kernel_rfl⟩⟩
def ti69 : TI := ⟨1, 8, .v .nilFunc, .other, false⟩
theorem ti69_ok : EntryOk Try.prog 69 ti69 := ⟨by kernel_rfl, (by show match Try.prog.underlying 69 with | some (.struct _) | some (.array _ _) | none => False | _ => True; rw [Try.underlying69]; trivial), .inl rfl, rfl, rfl, fun h => by cases h⟩
def ti70 : TI := ⟨1, 8, .v .nilFunc, .other, false⟩
theorem ti70_ok : EntryOk Try.prog 70 ti70 := ⟨by kernel_rfl, (by show match Try.prog.underlying 70 with | some (.struct _) | some (.array _ _) | none => False | _ => True; rw [Try.underlying70]; trivial), .inl rfl, rfl, rfl, fun h => by cases h⟩
def ti71 : TI := ⟨1, 8, .v .nilFunc, .other, false⟩
theorem ti71_ok : EntryOk Try.prog 71 ti71 := ⟨by kernel_rfl, (by show match Try.prog.underlying 71 with | some (.struct _) | some (.array _ _) | none => False | _ => True; rw [Try.underlying71]; trivial), .inl rfl, rfl, rfl, fun h => by cases h⟩
def ti72 : TI := ⟨1, 8, .v (.pointer none), .ptr 81, false⟩
theorem ti72_ok : EntryOk Try.prog 72 ti72 := ⟨by kernel_rfl, Try.underlying72, .inl rfl, rfl, rfl, fun h => by cases h⟩
def ti73 : TI := ⟨1, 8, .v (.map none), .map 3 31, false⟩
theorem ti73_ok : EntryOk Try.prog 73 ti73 := ⟨by kernel_rfl, Try.underlying73, .inl rfl, rfl, rfl, fun h => by cases h⟩
def ti74 : TI := ⟨2, 16, .agg [.v (.pointer none), .v (.map none)], .struct [(0, 72), (1, 73)], false⟩
theorem ti74_ok : EntryOk Try.prog 74 ti74 := ⟨by kernel_rfl, ⟨by kernel_rfl, by kernel_rfl, by kernel_rfl⟩, .inr ⟨_, rfl⟩, rfl, rfl, fun h => by cases h⟩
def ti75 : TI := ⟨2, 16, .agg [.v (.pointer none), .v (.map none)], .struct [(0, 72), (1, 73)], false⟩
theorem ti75_ok : EntryOk Try.prog 75 ti75 := ⟨by kernel_rfl, ⟨by kernel_rfl, by kernel_rfl, by kernel_rfl⟩, .inr ⟨_, rfl⟩, rfl, rfl, fun h => by cases h⟩
def ti76 : TI := ⟨1, 8, .v .nilFunc, .other, false⟩
theorem ti76_ok : EntryOk Try.prog 76 ti76 := ⟨by kernel_rfl, (by show match Try.prog.underlying 76 with | some (.struct _) | some (.array _ _) | none => False | _ => True; rw [Try.underlying76]; trivial), .inl rfl, rfl, rfl, fun h => by cases h⟩
def ti77 : TI := ⟨1, 8, .v .nilFunc, .other, false⟩
theorem ti77_ok : EntryOk Try.prog 77 ti77 := ⟨by kernel_rfl, (by show match Try.prog.underlying 77 with | some (.struct _) | some (.array _ _) | none => False | _ => True; rw [Try.underlying77]; trivial), .inl rfl, rfl, rfl, fun h => by cases h⟩
def ti78 : TI := ⟨1, 8, .v .nilFunc, .other, false⟩
theorem ti78_ok : EntryOk Try.prog 78 ti78 := ⟨by kernel_rfl, (by show match Try.prog.underlying 78 with | some (.struct _) | some (.array _ _) | none => False | _ => True; rw [Try.underlying78]; trivial), .inl rfl, rfl, rfl, fun h => by cases h⟩
def ti79 : TI := ⟨1, 8, .v .nilFunc, .other, false⟩
theorem ti79_ok : EntryOk Try.prog 79 ti79 := ⟨by kernel_rfl, (by show match Try.prog.underlying 79 with | some (.struct _) | some (.array _ _) | none => False | _ => True; rw [Try.underlying79]; trivial), .inl rfl, rfl, rfl, fun h => by cases h⟩
def ti80 : TI := ⟨9, 72, .agg [.v (.int .i64 0), .v (.int .i64 0), .v (.int .i64 0), .v (.int .i64 0), .v (.int .i64 0), .v (.pointer none), .v (.pointer none), .v (.int .i64 0), .v (.int .i64 0)], .struct [(0, 3), (1, 31), (5, 72), (6, 72), (7, 3), (8, 3)], false⟩
theorem ti80_ok : EntryOk Try.prog 80 ti80 := ⟨by kernel_rfl, ⟨by kernel_rfl, by kernel_rfl, by kernel_rfl⟩, .inr ⟨_, rfl⟩, rfl, rfl, fun h => by cases h⟩
def ti81 : TI := ⟨9, 72, .agg [.v (.int .i64 0), .v (.int .i64 0), .v (.int .i64 0), .v (.int .i64 0), .v (.int .i64 0), .v (.pointer none), .v (.pointer none), .v (.int .i64 0), .v (.int .i64 0)], .struct [(0, 3), (1, 31), (5, 72), (6, 72), (7, 3), (8, 3)], false⟩
theorem ti81_ok : EntryOk Try.prog 81 ti81 := ⟨by kernel_rfl, ⟨by kernel_rfl, by kernel_rfl, by kernel_rfl⟩, .inr ⟨_, rfl⟩, rfl, rfl, fun h => by cases h⟩
def ti82 : TI := ⟨1, 8, .v .nilFunc, .other, false⟩
theorem ti82_ok : EntryOk Try.prog 82 ti82 := ⟨by kernel_rfl, (by show match Try.prog.underlying 82 with | some (.struct _) | some (.array _ _) | none => False | _ => True; rw [Try.underlying82]; trivial), .inl rfl, rfl, rfl, fun h => by cases h⟩
def ti83 : TI := ⟨1, 8, .v .nilFunc, .other, false⟩
theorem ti83_ok : EntryOk Try.prog 83 ti83 := ⟨by kernel_rfl, (by show match Try.prog.underlying 83 with | some (.struct _) | some (.array _ _) | none => False | _ => True; rw [Try.underlying83]; trivial), .inl rfl, rfl, rfl, fun h => by cases h⟩
def ti84 : TI := ⟨2, 16, .agg [.v (.int .i64 0), .v (.int .i64 0)], .struct [(0, 3), (1, 3)], true⟩
theorem ti84_ok : EntryOk Try.prog 84 ti84 := ⟨by kernel_rfl, ⟨by kernel_rfl, by kernel_rfl, by kernel_rfl⟩, .inr ⟨_, rfl⟩, rfl, rfl, fun _ => ⟨by kernel_rfl, by kernel_rfl, by kernel_rfl⟩⟩
def ti85 : TI := ⟨2, 16, .agg [.v (.int .i64 0), .v (.int .i64 0)], .struct [(0, 3), (1, 3)], true⟩
theorem ti85_ok : EntryOk Try.prog 85 ti85 := ⟨by kernel_rfl, ⟨by kernel_rfl, by kernel_rfl, by kernel_rfl⟩, .inr ⟨_, rfl⟩, rfl, rfl, fun _ => ⟨by kernel_rfl, by kernel_rfl, by kernel_rfl⟩⟩
def ti86 : TI := ⟨1, 8, .v .nilFunc, .other, false⟩
theorem ti86_ok : EntryOk Try.prog 86 ti86 := ⟨by kernel_rfl, (by show match Try.prog.underlying 86 with | some (.struct _) | some (.array _ _) | none => False | _ => True; rw [Try.underlying86]; trivial), .inl rfl, rfl, rfl, fun h => by cases h⟩
def ti87 : TI := ⟨1, 8, .v (.int .i64 0), .int .i64, false⟩
theorem ti87_ok : EntryOk Try.prog 87 ti87 := ⟨by kernel_rfl, Try.underlying87, .inl rfl, rfl, rfl, fun h => by cases h⟩
def ti88 : TI := ⟨1, 8, .v .nilFunc, .other, false⟩
theorem ti88_ok : EntryOk Try.prog 88 ti88 := ⟨by kernel_rfl, (by show match Try.prog.underlying 88 with | some (.struct _) | some (.array _ _) | none => False | _ => True; rw [Try.underlying88]; trivial), .inl rfl, rfl, rfl, fun h => by cases h⟩
def ti89 : TI := ⟨1, 8, .v (.pointer none), .ptr 3, false⟩
theorem ti89_ok : EntryOk Try.prog 89 ti89 := ⟨by kernel_rfl, Try.underlying89, .inl rfl, rfl, rfl, fun h => by cases h⟩
def ti90 : TI := ⟨1, 8, .v .nilFunc, .other, false⟩
theorem ti90_ok : EntryOk Try.prog 90 ti90 := ⟨by kernel_rfl, (by show match Try.prog.underlying 90 with | some (.struct _) | some (.array _ _) | none => False | _ => True; rw [Try.underlying90]; trivial), .inl rfl, rfl, rfl, fun h => by cases h⟩
def ti91 : TI := ⟨1, 8, .v .nilFunc, .other, false⟩
theorem ti91_ok : EntryOk Try.prog 91 ti91 := ⟨by kernel_rfl, (by show match Try.prog.underlying 91 with | some (.struct _) | some (.array _ _) | none => False | _ => True; rw [Try.underlying91]; trivial), .inl rfl, rfl, rfl, fun h => by cases h⟩
def ti92 : TI := ⟨1, 8, .v .nilFunc, .other, false⟩
theorem ti92_ok : EntryOk Try.prog 92 ti92 := ⟨by kernel_rfl, (by show match Try.prog.underlying 92 with | some (.struct _) | some (.array _ _) | none => False | _ => True; rw [Try.underlying92]; trivial), .inl rfl, rfl, rfl, fun h => by cases h⟩
def ti93 : TI := ⟨1, 8, .v .nilFunc, .other, false⟩
theorem ti93_ok : EntryOk Try.prog 93 ti93 := ⟨by kernel_rfl, (by show match Try.prog.underlying 93 with | some (.struct _) | some (.array _ _) | none => False | _ => True; rw [Try.underlying93]; trivial), .inl rfl, rfl, rfl, fun h => by cases h⟩
def ti95 : TI := ⟨1, 8, .v .nilFunc, .other, false⟩
theorem ti95_ok : EntryOk Try.prog 95 ti95 := ⟨by kernel_rfl, (by show match Try.prog.underlying 95 with | some (.struct _) | some (.array _ _) | none => False | _ => True; rw [Try.underlying95]; trivial), .inl rfl, rfl, rfl, fun h => by cases h⟩
def ti96 : TI := ⟨1, 8, .v .nilFunc, .other, false⟩
theorem ti96_ok : EntryOk Try.prog 96 ti96 := ⟨by kernel_rfl, (by show match Try.prog.underlying 96 with | some (.struct _) | some (.array _ _) | none => False | _ => True; rw [Try.underlying96]; trivial), .inl rfl, rfl, rfl, fun h => by cases h⟩
def ti98 : TI := ⟨1, 8, .v .nilFunc, .other, false⟩
theorem ti98_ok : EntryOk Try.prog 98 ti98 := ⟨by kernel_rfl, (by show match Try.prog.underlying 98 with | some (.struct _) | some (.array _ _) | none => False | _ => True; rw [Try.underlying98]; trivial), .inl rfl, rfl, rfl, fun h => by cases h⟩
def ti99 : TI := ⟨1, 8, .v .nilFunc, .other, false⟩
theorem ti99_ok : EntryOk Try.prog 99 ti99 := ⟨by kernel_rfl, (by show match Try.prog.underlying 99 with | some (.struct _) | some (.array _ _) | none => False | _ => True; rw [Try.underlying99]; trivial), .inl rfl, rfl, rfl, fun h => by cases h⟩
def ti101 : TI := ⟨1, 8, .v .nilFunc, .other, false⟩
theorem ti101_ok : EntryOk Try.prog 101 ti101 := ⟨by kernel_rfl, (by show match Try.prog.underlying 101 with | some (.struct _) | some (.array _ _) | none => False | _ => True; rw [Try.underlying101]; trivial), .inl rfl, rfl, rfl, fun h => by cases h⟩
def ti102 : TI := ⟨1, 8, .v .nilFunc, .other, false⟩
theorem ti102_ok : EntryOk Try.prog 102 ti102 := ⟨by kernel_rfl, (by show match Try.prog.underlying 102 with | some (.struct _) | some (.array _ _) | none => False | _ => True; rw [Try.underlying102]; trivial), .inl rfl, rfl, rfl, fun h => by cases h⟩
def ti103 : TI := ⟨1, 8, .v .nilFunc, .other, false⟩
theorem ti103_ok : EntryOk Try.prog 103 ti103 := ⟨by kernel_rfl, (by show match Try.prog.underlying 103 with | some (.struct _) | some (.array _ _) | none => False | _ => True; rw [Try.underlying103]; trivial), .inl rfl, rfl, rfl, fun h => by cases h⟩
def ti104 : TI := ⟨1, 8, .v .nilFunc, .other, false⟩
theorem ti104_ok : EntryOk Try.prog 104 ti104 := ⟨by kernel_rfl, (by show match Try.prog.underlying 104 with | some (.struct _) | some (.array _ _) | none => False | _ => True; rw [Try.underlying104]; trivial), .inl rfl, rfl, rfl, fun h => by cases h⟩
def ti105 : TI := ⟨1, 8, .v .nilFunc, .other, false⟩
theorem ti105_ok : EntryOk Try.prog 105 ti105 := ⟨by kernel_rfl, (by show match Try.prog.underlying 105 with | some (.struct _) | some (.array _ _) | none => False | _ => True; rw [Try.underlying105]; trivial), .inl rfl, rfl, rfl, fun h => by cases h⟩
def ti106 : TI := ⟨1, 8, .v .nilFunc, .other, false⟩
theorem ti106_ok : EntryOk Try.prog 106 ti106 := ⟨by kernel_rfl, (by show match Try.prog.underlying 106 with | some (.struct _) | some (.array _ _) | none => False | _ => True; rw [Try.underlying106]; trivial), .inl rfl, rfl, rfl, fun h => by cases h⟩
def ti107 : TI := ⟨1, 8, .v (.pointer none), .ptr 72, false⟩
theorem ti107_ok : EntryOk Try.prog 107 ti107 := ⟨by kernel_rfl, Try.underlying107, .inl rfl, rfl, rfl, fun h => by cases h⟩
def ti108 : TI := ⟨1, 8, .v .nilFunc, .other, false⟩
theorem ti108_ok : EntryOk Try.prog 108 ti108 := ⟨by kernel_rfl, (by show match Try.prog.underlying 108 with | some (.struct _) | some (.array _ _) | none => False | _ => True; rw [Try.underlying108]; trivial), .inl rfl, rfl, rfl, fun h => by cases h⟩
def ti109 : TI := ⟨1, 8, .v .nilFunc, .other, false⟩
theorem ti109_ok : EntryOk Try.prog 109 ti109 := ⟨by kernel_rfl, (by show match Try.prog.underlying 109 with | some (.struct _) | some (.array _ _) | none => False | _ => True; rw [Try.underlying109]; trivial), .inl rfl, rfl, rfl, fun h => by cases h⟩
def ti110 : TI := ⟨1, 8, .v .nilFunc, .other, false⟩
theorem ti110_ok : EntryOk Try.prog 110 ti110 := ⟨by kernel_rfl, (by show match Try.prog.underlying 110 with | some (.struct _) | some (.array _ _) | none => False | _ => True; rw [Try.underlying110]; trivial), .inl rfl, rfl, rfl, fun h => by cases h⟩
def ti112 : TI := ⟨1, 8, .v .nilFunc, .other, false⟩
theorem ti112_ok : EntryOk Try.prog 112 ti112 := ⟨by kernel_rfl, (by show match Try.prog.underlying 112 with | some (.struct _) | some (.array _ _) | none => False | _ => True; rw [Try.underlying112]; trivial), .inl rfl, rfl, rfl, fun h => by cases h⟩
def ti113 : TI := ⟨1, 8, .v .nilFunc, .other, false⟩
theorem ti113_ok : EntryOk Try.prog 113 ti113 := ⟨by kernel_rfl, (by show match Try.prog.underlying 113 with | some (.struct _) | some (.array _ _) | none => False | _ => True; rw [Try.underlying113]; trivial), .inl rfl, rfl, rfl, fun h => by cases h⟩
def ti114 : TI := ⟨5, 40, .agg [.v (.int .i64 0), .v (.int .i64 0), .v (.int .i64 0), .v (.int .i64 0), .v (.int .i64 0)], .struct [(0, 3), (1, 31)], true⟩
theorem ti114_ok : EntryOk Try.prog 114 ti114 := ⟨by kernel_rfl, ⟨by kernel_rfl, by kernel_rfl, by kernel_rfl⟩, .inr ⟨_, rfl⟩, rfl, rfl, fun _ => ⟨by kernel_rfl, by kernel_rfl, by kernel_rfl⟩⟩
def ti115 : TI := ⟨5, 40, .agg [.v (.int .i64 0), .v (.int .i64 0), .v (.int .i64 0), .v (.int .i64 0), .v (.int .i64 0)], .struct [(0, 3), (1, 31)], true⟩
theorem ti115_ok : EntryOk Try.prog 115 ti115 := ⟨by kernel_rfl, ⟨by kernel_rfl, by kernel_rfl, by kernel_rfl⟩, .inr ⟨_, rfl⟩, rfl, rfl, fun _ => ⟨by kernel_rfl, by kernel_rfl, by kernel_rfl⟩⟩
def ti117 : TI := ⟨1, 8, .v .nilFunc, .other, false⟩
theorem ti117_ok : EntryOk Try.prog 117 ti117 := ⟨by kernel_rfl, (by show match Try.prog.underlying 117 with | some (.struct _) | some (.array _ _) | none => False | _ => True; rw [Try.underlying117]; trivial), .inl rfl, rfl, rfl, fun h => by cases h⟩
def ti118 : TI := ⟨1, 8, .v .nilFunc, .other, false⟩
theorem ti118_ok : EntryOk Try.prog 118 ti118 := ⟨by kernel_rfl, (by show match Try.prog.underlying 118 with | some (.struct _) | some (.array _ _) | none => False | _ => True; rw [Try.underlying118]; trivial), .inl rfl, rfl, rfl, fun h => by cases h⟩
def ti119 : TI := ⟨1, 8, .v (.int .i64 0), .int .i64, false⟩
theorem ti119_ok : EntryOk Try.prog 119 ti119 := ⟨by kernel_rfl, Try.underlying119, .inl rfl, rfl, rfl, fun h => by cases h⟩
def ti121 : TI := ⟨1, 8, .v .nilFunc, .other, false⟩
theorem ti121_ok : EntryOk Try.prog 121 ti121 := ⟨by kernel_rfl, (by show match Try.prog.underlying 121 with | some (.struct _) | some (.array _ _) | none => False | _ => True; rw [Try.underlying121]; trivial), .inl rfl, rfl, rfl, fun h => by cases h⟩
def ti122 : TI := ⟨1, 8, .v .nilFunc, .other, false⟩
theorem ti122_ok : EntryOk Try.prog 122 ti122 := ⟨by kernel_rfl, (by show match Try.prog.underlying 122 with | some (.struct _) | some (.array _ _) | none => False | _ => True; rw [Try.underlying122]; trivial), .inl rfl, rfl, rfl, fun h => by cases h⟩
def ti123 : TI := ⟨1, 8, .v .nilFunc, .other, false⟩
theorem ti123_ok : EntryOk Try.prog 123 ti123 := ⟨by kernel_rfl, (by show match Try.prog.underlying 123 with | some (.struct _) | some (.array _ _) | none => False | _ => True; rw [Try.underlying123]; trivial), .inl rfl, rfl, rfl, fun h => by cases h⟩
def ti124 : TI := ⟨1, 8, .v .nilFunc, .other, false⟩
theorem ti124_ok : EntryOk Try.prog 124 ti124 := ⟨by kernel_rfl, (by show match Try.prog.underlying 124 with | some (.struct _) | some (.array _ _) | none => False | _ => True; rw [Try.underlying124]; trivial), .inl rfl, rfl, rfl, fun h => by cases h⟩
def ti126 : TI := ⟨1, 8, .v .nilFunc, .other, false⟩
theorem ti126_ok : EntryOk Try.prog 126 ti126 := ⟨by kernel_rfl, (by show match Try.prog.underlying 126 with | some (.struct _) | some (.array _ _) | none => False | _ => True; rw [Try.underlying126]; trivial), .inl rfl, rfl, rfl, fun h => by cases h⟩
def ti127 : TI := ⟨1, 8, .v .nilFunc, .other, false⟩
theorem ti127_ok : EntryOk Try.prog 127 ti127 := ⟨by kernel_rfl, (by show match Try.prog.underlying 127 with | some (.struct _) | some (.array _ _) | none => False | _ => True; rw [Try.underlying127]; trivial), .inl rfl, rfl, rfl, fun h => by cases h⟩
def ti128 : TI := ⟨1, 4, .v (.int .u32 0), .int .u32, false⟩
theorem ti128_ok : EntryOk Try.prog 128 ti128 := ⟨by kernel_rfl, Try.underlying128, .inl rfl, rfl, rfl, fun h => by cases h⟩
def ti129 : TI := ⟨1, 8, .v .nilFunc, .other, false⟩
theorem ti129_ok : EntryOk Try.prog 129 ti129 := ⟨by kernel_rfl, (by show match Try.prog.underlying 129 with | some (.struct _) | some (.array _ _) | none => False | _ => True; rw [Try.underlying129]; trivial), .inl rfl, rfl, rfl, fun h => by cases h⟩
def ti130 : TI := ⟨1, 8, .v (.int .u64 0), .int .u64, false⟩
theorem ti130_ok : EntryOk Try.prog 130 ti130 := ⟨by kernel_rfl, Try.underlying130, .inl rfl, rfl, rfl, fun h => by cases h⟩
def ti131 : TI := ⟨1, 8, .v .nilFunc, .other, false⟩
theorem ti131_ok : EntryOk Try.prog 131 ti131 := ⟨by kernel_rfl, (by show match Try.prog.underlying 131 with | some (.struct _) | some (.array _ _) | none => False | _ => True; rw [Try.underlying131]; trivial), .inl rfl, rfl, rfl, fun h => by cases h⟩
def ti132 : TI := ⟨1, 8, .v .nilFunc, .other, false⟩
theorem ti132_ok : EntryOk Try.prog 132 ti132 := ⟨by kernel_rfl, (by show match Try.prog.underlying 132 with | some (.struct _) | some (.array _ _) | none => False | _ => True; rw [Try.underlying132]; trivial), .inl rfl, rfl, rfl, fun h => by cases h⟩
def ti133 : TI := ⟨1, 8, .v .nilFunc, .other, false⟩
theorem ti133_ok : EntryOk Try.prog 133 ti133 := ⟨by kernel_rfl, (by show match Try.prog.underlying 133 with | some (.struct _) | some (.array _ _) | none => False | _ => True; rw [Try.underlying133]; trivial), .inl rfl, rfl, rfl, fun h => by cases h⟩
def ti134 : TI := ⟨2, 2, .agg [.v (.bool false), .v (.bool false)], .arr 2 4, false⟩
theorem ti134_ok : EntryOk Try.prog 134 ti134 := ⟨by kernel_rfl, Try.underlying134, .inr ⟨_, rfl⟩, rfl, rfl, fun h => by cases h⟩
def ti135 : TI := ⟨1, 8, .v .nilFunc, .other, false⟩
theorem ti135_ok : EntryOk Try.prog 135 ti135 := ⟨by kernel_rfl, (by show match Try.prog.underlying 135 with | some (.struct _) | some (.array _ _) | none => False | _ => True; rw [Try.underlying135]; trivial), .inl rfl, rfl, rfl, fun h => by cases h⟩
def ti137 : TI := ⟨1, 8, .v .nilFunc, .other, false⟩
theorem ti137_ok : EntryOk Try.prog 137 ti137 := ⟨by kernel_rfl, (by show match Try.prog.underlying 137 with | some (.struct _) | some (.array _ _) | none => False | _ => True; rw [Try.underlying137]; trivial), .inl rfl, rfl, rfl, fun h => by cases h⟩
def ti138 : TI := ⟨1, 8, .v (.int .u64 0), .int .u64, false⟩
theorem ti138_ok : EntryOk Try.prog 138 ti138 := ⟨by kernel_rfl, Try.underlying138, .inl rfl, rfl, rfl, fun h => by cases h⟩
def ti139 : TI := ⟨1, 8, .v .nilFunc, .other, false⟩
theorem ti139_ok : EntryOk Try.prog 139 ti139 := ⟨by kernel_rfl, (by show match Try.prog.underlying 139 with | some (.struct _) | some (.array _ _) | none => False | _ => True; rw [Try.underlying139]; trivial), .inl rfl, rfl, rfl, fun h => by cases h⟩
def ti140 : TI := ⟨1, 8, .v .nilFunc, .other, false⟩
theorem ti140_ok : EntryOk Try.prog 140 ti140 := ⟨by kernel_rfl, (by show match Try.prog.underlying 140 with | some (.struct _) | some (.array _ _) | none => False | _ => True; rw [Try.underlying140]; trivial), .inl rfl, rfl, rfl, fun h => by cases h⟩
def ti141 : TI := ⟨1, 8, .v .nilFunc, .other, false⟩
theorem ti141_ok : EntryOk Try.prog 141 ti141 := ⟨by kernel_rfl, (by show match Try.prog.underlying 141 with | some (.struct _) | some (.array _ _) | none => False | _ => True; rw [Try.underlying141]; trivial), .inl rfl, rfl, rfl, fun h => by cases h⟩
def ti142 : TI := ⟨1, 8, .v .nilFunc, .other, false⟩
theorem ti142_ok : EntryOk Try.prog 142 ti142 := ⟨by kernel_rfl, (by show match Try.prog.underlying 142 with | some (.struct _) | some (.array _ _) | none => False | _ => True; rw [Try.underlying142]; trivial), .inl rfl, rfl, rfl, fun h => by cases h⟩
def ti144 : TI := ⟨1, 8, .v .nilFunc, .other, false⟩
theorem ti144_ok : EntryOk Try.prog 144 ti144 := ⟨by kernel_rfl, (by show match Try.prog.underlying 144 with | some (.struct _) | some (.array _ _) | none => False | _ => True; rw [Try.underlying144]; trivial), .inl rfl, rfl, rfl, fun h => by cases h⟩
def ti145 : TI := ⟨1, 8, .v (.pointer none), .ptr 138, false⟩
theorem ti145_ok : EntryOk Try.prog 145 ti145 := ⟨by kernel_rfl, Try.underlying145, .inl rfl, rfl, rfl, fun h => by cases h⟩
def ti146 : TI := ⟨1, 8, .v .nilFunc, .other, false⟩
theorem ti146_ok : EntryOk Try.prog 146 ti146 := ⟨by kernel_rfl, (by show match Try.prog.underlying 146 with | some (.struct _) | some (.array _ _) | none => False | _ => True; rw [Try.underlying146]; trivial), .inl rfl, rfl, rfl, fun h => by cases h⟩
def ti147 : TI := ⟨1, 8, .v .nilFunc, .other, false⟩
theorem ti147_ok : EntryOk Try.prog 147 ti147 := ⟨by kernel_rfl, (by show match Try.prog.underlying 147 with | some (.struct _) | some (.array _ _) | none => False | _ => True; rw [Try.underlying147]; trivial), .inl rfl, rfl, rfl, fun h => by cases h⟩
def ti148 : TI := ⟨4, 40, .agg [.v (.pointer none), .v (.pointer none), .v (.pointer none), .v (.string ByteArray.empty)], .struct [(0, 17), (1, 17), (2, 17), (3, 9)], false⟩
theorem ti148_ok : EntryOk Try.prog 148 ti148 := ⟨by kernel_rfl, ⟨by kernel_rfl, by kernel_rfl, by kernel_rfl⟩, .inr ⟨_, rfl⟩, rfl, rfl, fun h => by cases h⟩
def ti149 : TI := ⟨4, 40, .agg [.v (.pointer none), .v (.pointer none), .v (.pointer none), .v (.string ByteArray.empty)], .struct [(0, 17), (1, 17), (2, 17), (3, 9)], false⟩
theorem ti149_ok : EntryOk Try.prog 149 ti149 := ⟨by kernel_rfl, ⟨by kernel_rfl, by kernel_rfl, by kernel_rfl⟩, .inr ⟨_, rfl⟩, rfl, rfl, fun h => by cases h⟩
def ti150 : TI := ⟨0, 0, .agg [], .arr 0 16, false⟩
theorem ti150_ok : EntryOk Try.prog 150 ti150 := ⟨by kernel_rfl, Try.underlying150, .inr ⟨_, rfl⟩, rfl, rfl, fun h => by cases h⟩
def ti151 : TI := ⟨0, 0, .agg [], .struct [(0, 150)], false⟩
theorem ti151_ok : EntryOk Try.prog 151 ti151 := ⟨by kernel_rfl, ⟨by kernel_rfl, by kernel_rfl, by kernel_rfl⟩, .inr ⟨_, rfl⟩, rfl, rfl, fun h => by cases h⟩
def ti152 : TI := ⟨0, 0, .agg [], .struct [(0, 150)], false⟩
theorem ti152_ok : EntryOk Try.prog 152 ti152 := ⟨by kernel_rfl, ⟨by kernel_rfl, by kernel_rfl, by kernel_rfl⟩, .inr ⟨_, rfl⟩, rfl, rfl, fun h => by cases h⟩
def ti153 : TI := ⟨1, 1, .v (.int .u8 0), .int .u8, false⟩
theorem ti153_ok : EntryOk Try.prog 153 ti153 := ⟨by kernel_rfl, Try.underlying153, .inl rfl, rfl, rfl, fun h => by cases h⟩
def ti154 : TI := ⟨1, 1, .v (.int .u8 0), .int .u8, false⟩
theorem ti154_ok : EntryOk Try.prog 154 ti154 := ⟨by kernel_rfl, Try.underlying154, .inl rfl, rfl, rfl, fun h => by cases h⟩
def ti155 : TI := ⟨1, 8, .v .nilFunc, .other, false⟩
theorem ti155_ok : EntryOk Try.prog 155 ti155 := ⟨by kernel_rfl, (by show match Try.prog.underlying 155 with | some (.struct _) | some (.array _ _) | none => False | _ => True; rw [Try.underlying155]; trivial), .inl rfl, rfl, rfl, fun h => by cases h⟩
def ti156 : TI := ⟨1, 8, .v (.pointer none), .ptr 5, false⟩
theorem ti156_ok : EntryOk Try.prog 156 ti156 := ⟨by kernel_rfl, Try.underlying156, .inl rfl, rfl, rfl, fun h => by cases h⟩
def ti157 : TI := ⟨1, 4, .v (.int .i32 0), .int .i32, false⟩
theorem ti157_ok : EntryOk Try.prog 157 ti157 := ⟨by kernel_rfl, Try.underlying157, .inl rfl, rfl, rfl, fun h => by cases h⟩
def ti158 : TI := ⟨1, 4, .v (.int .i32 0), .int .i32, false⟩
theorem ti158_ok : EntryOk Try.prog 158 ti158 := ⟨by kernel_rfl, Try.underlying158, .inl rfl, rfl, rfl, fun h => by cases h⟩
def ti159 : TI := ⟨11, 48, .agg [.v (.int .u64 0), .v (.int .u64 0), .v (.int .u32 0), .v (.int .u8 0), .v (.int .u8 0), .v (.int .u8 0), .v (.int .u8 0), .v .nilFunc, .v (.pointer none), .v (.int .i32 0), .v (.int .i32 0)], .struct [(0, 12), (1, 12), (2, 128), (3, 153), (4, 5), (5, 5), (6, 154), (7, 155), (8, 156), (9, 157), (10, 158)], false⟩
theorem ti159_ok : EntryOk Try.prog 159 ti159 := ⟨by kernel_rfl, ⟨by kernel_rfl, by kernel_rfl, by kernel_rfl⟩, .inr ⟨_, rfl⟩, rfl, rfl, fun h => by cases h⟩
def ti160 : TI := ⟨11, 48, .agg [.v (.int .u64 0), .v (.int .u64 0), .v (.int .u32 0), .v (.int .u8 0), .v (.int .u8 0), .v (.int .u8 0), .v (.int .u8 0), .v .nilFunc, .v (.pointer none), .v (.int .i32 0), .v (.int .i32 0)], .struct [(0, 12), (1, 12), (2, 128), (3, 153), (4, 5), (5, 5), (6, 154), (7, 155), (8, 156), (9, 157), (10, 158)], false⟩
theorem ti160_ok : EntryOk Try.prog 160 ti160 := ⟨by kernel_rfl, ⟨by kernel_rfl, by kernel_rfl, by kernel_rfl⟩, .inr ⟨_, rfl⟩, rfl, rfl, fun h => by cases h⟩
def ti161 : TI := ⟨1, 8, .v (.pointer none), .uptr, false⟩
theorem ti161_ok : EntryOk Try.prog 161 ti161 := ⟨by kernel_rfl, Try.underlying161, .inl rfl, rfl, rfl, fun h => by cases h⟩
def tab : Tab := [(1, ti1), (2, ti2), (3, ti3), (4, ti4), (5, ti5), (6, ti6), (7, ti7), (8, ti8), (9, ti9), (10, ti10), (11, ti11), (12, ti12), (13, ti13), (14, ti14), (15, ti15), (16, ti16), (17, ti17), (18, ti18), (19, ti19), (20, ti20), (21, ti21), (22, ti22), (23, ti23), (24, ti24), (25, ti25), (26, ti26), (27, ti27), (28, ti28), (29, ti29), (30, ti30), (31, ti31), (32, ti32), (34, ti34), (35, ti35), (36, ti36), (37, ti37), (38, ti38), (40, ti40), (41, ti41), (42, ti42), (43, ti43), (44, ti44), (45, ti45), (47, ti47), (49, ti49), (51, ti51), (52, ti52), (53, ti53), (54, ti54), (55, ti55), (56, ti56), (57, ti57), (58, ti58), (59, ti59), (60, ti60), (61, ti61), (62, ti62), (63, ti63), (64, ti64), (66, ti66), (67, ti67), (68, ti68), (69, ti69), (70, ti70), (71, ti71), (72, ti72), (73, ti73), (74, ti74), (75, ti75), (76, ti76), (77, ti77), (78, ti78), (79, ti79), (80, ti80), (81, ti81), (82, ti82), (83, ti83), (84, ti84), (85, ti85), (86, ti86), (87, ti87), (88, ti88), (89, ti89), (90, ti90), (91, ti91), (92, ti92), (93, ti93), (95, ti95), (96, ti96), (98, ti98), (99, ti99), (101, ti101), (102, ti102), (103, ti103), (104, ti104), (105, ti105), (106, ti106), (107, ti107), (108, ti108), (109, ti109), (110, ti110), (112, ti112), (113, ti113), (114, ti114), (115, ti115), (117, ti117), (118, ti118), (119, ti119), (121, ti121), (122, ti122), (123, ti123), (124, ti124), (126, ti126), (127, ti127), (128, ti128), (129, ti129), (130, ti130), (131, ti131), (132, ti132), (133, ti133), (134, ti134), (135, ti135), (137, ti137), (138, ti138), (139, ti139), (140, ti140), (141, ti141), (142, ti142), (144, ti144), (145, ti145), (146, ti146), (147, ti147), (148, ti148), (149, ti149), (150, ti150), (151, ti151), (152, ti152), (153, ti153), (154, ti154), (155, ti155), (156, ti156), (157, ti157), (158, ti158), (159, ti159), (160, ti160), (161, ti161)]
theorem tab_ok : TabOk Try.prog tab := ⟨ti1_ok, ti2_ok, ti3_ok, ti4_ok, ti5_ok, ti6_ok, ti7_ok, ti8_ok, ti9_ok, ti10_ok, ti11_ok, ti12_ok, ti13_ok, ti14_ok, ti15_ok, ti16_ok, ti17_ok, ti18_ok, ti19_ok, ti20_ok, ti21_ok, ti22_ok, ti23_ok, ti24_ok, ti25_ok, ti26_ok, ti27_ok, ti28_ok, ti29_ok, ti30_ok, ti31_ok, ti32_ok, ti34_ok, ti35_ok, ti36_ok, ti37_ok, ti38_ok, ti40_ok, ti41_ok, ti42_ok, ti43_ok, ti44_ok, ti45_ok, ti47_ok, ti49_ok, ti51_ok, ti52_ok, ti53_ok, ti54_ok, ti55_ok, ti56_ok, ti57_ok, ti58_ok, ti59_ok, ti60_ok, ti61_ok, ti62_ok, ti63_ok, ti64_ok, ti66_ok, ti67_ok, ti68_ok, ti69_ok, ti70_ok, ti71_ok, ti72_ok, ti73_ok, ti74_ok, ti75_ok, ti76_ok, ti77_ok, ti78_ok, ti79_ok, ti80_ok, ti81_ok, ti82_ok, ti83_ok, ti84_ok, ti85_ok, ti86_ok, ti87_ok, ti88_ok, ti89_ok, ti90_ok, ti91_ok, ti92_ok, ti93_ok, ti95_ok, ti96_ok, ti98_ok, ti99_ok, ti101_ok, ti102_ok, ti103_ok, ti104_ok, ti105_ok, ti106_ok, ti107_ok, ti108_ok, ti109_ok, ti110_ok, ti112_ok, ti113_ok, ti114_ok, ti115_ok, ti117_ok, ti118_ok, ti119_ok, ti121_ok, ti122_ok, ti123_ok, ti124_ok, ti126_ok, ti127_ok, ti128_ok, ti129_ok, ti130_ok, ti131_ok, ti132_ok, ti133_ok, ti134_ok, ti135_ok, ti137_ok, ti138_ok, ti139_ok, ti140_ok, ti141_ok, ti142_ok, ti144_ok, ti145_ok, ti146_ok, ti147_ok, ti148_ok, ti149_ok, ti150_ok, ti151_ok, ti152_ok, ti153_ok, ti154_ok, ti155_ok, ti156_ok, ti157_ok, ti158_ok, ti159_ok, ti160_ok, ti161_ok, trivial⟩
end Go.Proofs.Ytjnehpljhnlbfaa
