/- Csv: a Builder's methods: their conditions. -/
import Derived.Test.YtdokphikobfakaaDoorA
import Derived.Test.YtdokphikobfakaaDoorY11
namespace Go.Proofs.YtdokphikobfakaaDoor
open Go Go.Eng Go.Sp
set_option linter.unusedVariables false
set_option linter.unusedSimpArgs false


set_option maxRecDepth 100000 in
theorem wb0_vc (n : Nat) (c : Int) {R : AV → HH → Prop} (h : (n = n ∧ n = n ∧ n = n ∧ n = n ∧ n = n ∧ ∀ (n1 : Nat), n1 = n1 ∧ (∀ (v : Int), v ∈ [c] → (0 : Int) ≤ v ∧ v ≤ (255 : Int)) ∧ ((mkI [c]).size ≤ (9223372036854775807 : Nat) ∧ ((mkI [c]).size + (mkI [c]).size / (4 : Nat) + (192 : Nat)) * (1 : Nat) ≤ (281474976710656 : Nat)) ∧ ∀ (n2 n3 : Nat), (mkI [c]).size ≤ n3 → n = n ∧ R (AV.v Value.nilIface) [Blk.mk n (Cont.cells [AV.ptr (0 : Nat) n (0 : Nat), AV.sl (2 : Nat) n2 (0 : Nat) (1 : Nat) (1 : Nat) n3] (41 : Nat)) true, Blk.mk n1 (Cont.cells [AV.v (Value.int IntKind.u8 c)] (5 : Nat)) true, Blk.mk n2 (Cont.buf (mkI [c]) n3 (5 : Nat)) true])) : LC Tryd.prog 16 [.ptr 0 n 0, .v (.int .u8 c)] [⟨n, .cells [.v (.pointer none), .v (.slice none 0 0)] 41, true⟩] R :=
  lc_of_exec (tbl := st3) tab_ok st3_ok mixed noinv 2 _ Tryd.func16 rfl Tryd.ntmps16 (by decide) (by kernel_rfl) (Nat.le_of_ble_eq_true rfl) (@Eq.mpr (execN tab st3 noinv 2 Tryd.f16.ntmps [] none 0 (body Tryd.f16) (argsT [.ptr 0 n 0, .v (.int .u8 c)] 0) [⟨n, .cells [.v (.pointer none), .v (.slice none 0 0)] 41, true⟩] (post Tryd.f16 tab (retK R))) _ (by kernel_rfl) h)



set_option maxRecDepth 100000 in
theorem wb1_vc (n : Nat) (c : Int) {R : AV → HH → Prop} (h : (n = n ∧ n = n ∧ n = n ∧ n = n ∧ ∀ (n1 : Nat), n1 = n1 ∧ (∀ (v : Int), v ∈ [c] → (0 : Int) ≤ v ∧ v ≤ (255 : Int)) ∧ ((mkI [c]).size ≤ (9223372036854775807 : Nat) ∧ ((mkI [c]).size + (mkI [c]).size / (4 : Nat) + (192 : Nat)) * (1 : Nat) ≤ (281474976710656 : Nat)) ∧ ∀ (n2 n3 : Nat), (mkI [c]).size ≤ n3 → n = n ∧ R (AV.v Value.nilIface) [Blk.mk n (Cont.cells [AV.ptr (0 : Nat) n (0 : Nat), AV.sl (2 : Nat) n2 (0 : Nat) (1 : Nat) (1 : Nat) n3] (41 : Nat)) true, Blk.mk n1 (Cont.cells [AV.v (Value.int IntKind.u8 c)] (5 : Nat)) true, Blk.mk n2 (Cont.buf (mkI [c]) n3 (5 : Nat)) true])) : LC Tryd.prog 16 [.ptr 0 n 0, .v (.int .u8 c)] [⟨n, .cells [.ptr 0 n 0, .v (.slice none 0 0)] 41, true⟩] R :=
  lc_of_exec (tbl := st3) tab_ok st3_ok mixed noinv 2 _ Tryd.func16 rfl Tryd.ntmps16 (by decide) (by kernel_rfl) (Nat.le_of_ble_eq_true rfl) (@Eq.mpr (execN tab st3 noinv 2 Tryd.f16.ntmps [] none 0 (body Tryd.f16) (argsT [.ptr 0 n 0, .v (.int .u8 c)] 0) [⟨n, .cells [.ptr 0 n 0, .v (.slice none 0 0)] 41, true⟩] (post Tryd.f16 tab (retK R))) _ (by kernel_rfl) h)



set_option maxRecDepth 100000 in
theorem wb2_vc (n m cap : Nat) (B : ByteArray) (c : Int) {R : AV → HH → Prop} (h : (n = n ∧ n = n ∧ n = n ∧ n = n ∧ ∀ (n1 : Nat), n1 = n1 ∧ (∀ (v : Int), v ∈ [c] → (0 : Int) ≤ v ∧ v ≤ (255 : Int)) ∧ m = m ∧ B.size = B.size ∧ cap = cap ∧ (B.size + (mkI [c]).size ≤ (9223372036854775807 : Nat) ∧ (B.size + (mkI [c]).size + (B.size + (mkI [c]).size) / (4 : Nat) + (192 : Nat)) * (1 : Nat) ≤ (281474976710656 : Nat)) ∧ ∀ (n2 n3 : Nat), (catS B (mkI [c])).size ≤ n3 → n = n ∧ R (AV.v Value.nilIface) [Blk.mk n (Cont.cells [AV.ptr (0 : Nat) n (0 : Nat), AV.sl (1 : Nat) n2 (0 : Nat) (1 : Nat) (catS B (mkI [c])).size n3] (41 : Nat)) true, Blk.mk n2 (Cont.buf (catS B (mkI [c])) n3 (5 : Nat)) true, Blk.mk n1 (Cont.cells [AV.v (Value.int IntKind.u8 c)] (5 : Nat)) true])) : LC Tryd.prog 16 [.ptr 0 n 0, .v (.int .u8 c)] [⟨n, .cells [.ptr 0 n 0, .sl 1 m 0 1 B.size cap] 41, true⟩, ⟨m, .buf B cap 5, true⟩] R :=
  lc_of_exec (tbl := st3) tab_ok st3_ok mixed noinv 2 _ Tryd.func16 rfl Tryd.ntmps16 (by decide) (by kernel_rfl) (Nat.le_of_ble_eq_true rfl) (@Eq.mpr (execN tab st3 noinv 2 Tryd.f16.ntmps [] none 0 (body Tryd.f16) (argsT [.ptr 0 n 0, .v (.int .u8 c)] 0) [⟨n, .cells [.ptr 0 n 0, .sl 1 m 0 1 B.size cap] 41, true⟩, ⟨m, .buf B cap 5, true⟩] (post Tryd.f16 tab (retK R))) _ (by kernel_rfl) h)



set_option maxRecDepth 100000 in
theorem ws0_vc (n : Nat) (s : ByteArray) {R : AV → HH → Prop} (h : (n = n ∧ n = n ∧ n = n ∧ n = n ∧ n = n ∧ br (s.size.beq (0 : Nat)) (n = n ∧ R (AV.tup [AV.v (Value.int IntKind.i64 (↑s.size : Int)), AV.v Value.nilIface]) [Blk.mk n (Cont.cells [AV.ptr (0 : Nat) n (0 : Nat), AV.v (Value.slice none (0 : Nat) (0 : Nat))] (41 : Nat)) true]) ((s.size ≤ (9223372036854775807 : Nat) ∧ (s.size + s.size / (4 : Nat) + (192 : Nat)) * (1 : Nat) ≤ (281474976710656 : Nat)) ∧ ∀ (n1 n2 : Nat), s.size ≤ n2 → n = n ∧ R (AV.tup [AV.v (Value.int IntKind.i64 (↑s.size : Int)), AV.v Value.nilIface]) [Blk.mk n (Cont.cells [AV.ptr (0 : Nat) n (0 : Nat), AV.sl (1 : Nat) n1 (0 : Nat) (1 : Nat) s.size n2] (41 : Nat)) true, Blk.mk n1 (Cont.buf s n2 (5 : Nat)) true]))) : LC Tryd.prog 19 [.ptr 0 n 0, .v (.string s)] [⟨n, .cells [.v (.pointer none), .v (.slice none 0 0)] 41, true⟩] R :=
  lc_of_exec (tbl := st3) tab_ok st3_ok mixed noinv 2 _ Tryd.func19 rfl Tryd.ntmps19 (by decide) (by kernel_rfl) (Nat.le_of_ble_eq_true rfl) (@Eq.mpr (execN tab st3 noinv 2 Tryd.f19.ntmps [] none 0 (body Tryd.f19) (argsT [.ptr 0 n 0, .v (.string s)] 0) [⟨n, .cells [.v (.pointer none), .v (.slice none 0 0)] 41, true⟩] (post Tryd.f19 tab (retK R))) _ (by kernel_rfl) h)



set_option maxRecDepth 100000 in
theorem ws1_vc (n : Nat) (s : ByteArray) {R : AV → HH → Prop} (h : (n = n ∧ n = n ∧ n = n ∧ n = n ∧ br (s.size.beq (0 : Nat)) (n = n ∧ R (AV.tup [AV.v (Value.int IntKind.i64 (↑s.size : Int)), AV.v Value.nilIface]) [Blk.mk n (Cont.cells [AV.ptr (0 : Nat) n (0 : Nat), AV.v (Value.slice none (0 : Nat) (0 : Nat))] (41 : Nat)) true]) ((s.size ≤ (9223372036854775807 : Nat) ∧ (s.size + s.size / (4 : Nat) + (192 : Nat)) * (1 : Nat) ≤ (281474976710656 : Nat)) ∧ ∀ (n1 n2 : Nat), s.size ≤ n2 → n = n ∧ R (AV.tup [AV.v (Value.int IntKind.i64 (↑s.size : Int)), AV.v Value.nilIface]) [Blk.mk n (Cont.cells [AV.ptr (0 : Nat) n (0 : Nat), AV.sl (1 : Nat) n1 (0 : Nat) (1 : Nat) s.size n2] (41 : Nat)) true, Blk.mk n1 (Cont.buf s n2 (5 : Nat)) true]))) : LC Tryd.prog 19 [.ptr 0 n 0, .v (.string s)] [⟨n, .cells [.ptr 0 n 0, .v (.slice none 0 0)] 41, true⟩] R :=
  lc_of_exec (tbl := st3) tab_ok st3_ok mixed noinv 2 _ Tryd.func19 rfl Tryd.ntmps19 (by decide) (by kernel_rfl) (Nat.le_of_ble_eq_true rfl) (@Eq.mpr (execN tab st3 noinv 2 Tryd.f19.ntmps [] none 0 (body Tryd.f19) (argsT [.ptr 0 n 0, .v (.string s)] 0) [⟨n, .cells [.ptr 0 n 0, .v (.slice none 0 0)] 41, true⟩] (post Tryd.f19 tab (retK R))) _ (by kernel_rfl) h)



set_option maxRecDepth 100000 in
theorem ws2_vc (n m cap : Nat) (B : ByteArray) (s : ByteArray) {R : AV → HH → Prop} (h : (n = n ∧ n = n ∧ n = n ∧ n = n ∧ m = m ∧ B.size = B.size ∧ cap = cap ∧ (B.size + s.size ≤ (9223372036854775807 : Nat) ∧ (B.size + s.size + (B.size + s.size) / (4 : Nat) + (192 : Nat)) * (1 : Nat) ≤ (281474976710656 : Nat)) ∧ ∀ (n1 n2 : Nat), (catS B s).size ≤ n2 → n = n ∧ R (AV.tup [AV.v (Value.int IntKind.i64 (↑s.size : Int)), AV.v Value.nilIface]) [Blk.mk n (Cont.cells [AV.ptr (0 : Nat) n (0 : Nat), AV.sl (1 : Nat) n1 (0 : Nat) (1 : Nat) (catS B s).size n2] (41 : Nat)) true, Blk.mk n1 (Cont.buf (catS B s) n2 (5 : Nat)) true])) : LC Tryd.prog 19 [.ptr 0 n 0, .v (.string s)] [⟨n, .cells [.ptr 0 n 0, .sl 1 m 0 1 B.size cap] 41, true⟩, ⟨m, .buf B cap 5, true⟩] R :=
  lc_of_exec (tbl := st3) tab_ok st3_ok mixed noinv 2 _ Tryd.func19 rfl Tryd.ntmps19 (by decide) (by kernel_rfl) (Nat.le_of_ble_eq_true rfl) (@Eq.mpr (execN tab st3 noinv 2 Tryd.f19.ntmps [] none 0 (body Tryd.f19) (argsT [.ptr 0 n 0, .v (.string s)] 0) [⟨n, .cells [.ptr 0 n 0, .sl 1 m 0 1 B.size cap] 41, true⟩, ⟨m, .buf B cap 5, true⟩] (post Tryd.f19 tab (retK R))) _ (by kernel_rfl) h)



set_option maxRecDepth 100000 in
theorem bs0_vc (n : Nat) {R : AV → HH → Prop} (h : (n = n ∧ n = n ∧ some (Blk.mk n (Cont.cells [AV.v (Value.pointer none), AV.v (Value.slice none (0 : Nat) (0 : Nat))] (41 : Nat)) true) = some (Blk.mk n (Cont.cells [AV.v (Value.pointer none), AV.v (Value.slice none (0 : Nat) (0 : Nat))] (41 : Nat)) true) ∧ some (Blk.mk n (Cont.cells [AV.v (Value.pointer none), AV.v (Value.slice none (0 : Nat) (0 : Nat))] (41 : Nat)) true) = some (Blk.mk n (Cont.cells [AV.v (Value.pointer none), AV.v (Value.slice none (0 : Nat) (0 : Nat))] (41 : Nat)) true) ∧ some (Blk.mk n (Cont.cells [AV.v (Value.pointer none), AV.v (Value.slice none (0 : Nat) (0 : Nat))] (41 : Nat)) true) = some (Blk.mk n (Cont.cells [AV.v (Value.pointer none), AV.v (Value.slice none (0 : Nat) (0 : Nat))] (41 : Nat)) true) ∧ R (AV.v (Value.string ByteArray.empty)) [Blk.mk n (Cont.cells [AV.v (Value.pointer none), AV.v (Value.slice none (0 : Nat) (0 : Nat))] (41 : Nat)) true])) : LC Tryd.prog 20 [.ptr 0 n 0] [⟨n, .cells [.v (.pointer none), .v (.slice none 0 0)] 41, true⟩] R :=
  lc_of_exec (tbl := st3) tab_ok st3_ok mixed noinv 2 _ Tryd.func20 rfl Tryd.ntmps20 (by decide) (by kernel_rfl) (Nat.le_of_ble_eq_true rfl) (@Eq.mpr (execN tab st3 noinv 2 Tryd.f20.ntmps [] none 0 (body Tryd.f20) (argsT [.ptr 0 n 0] 0) [⟨n, .cells [.v (.pointer none), .v (.slice none 0 0)] 41, true⟩] (post Tryd.f20 tab (retK R))) _ (by kernel_rfl) h)



set_option maxRecDepth 100000 in
theorem bs1_vc (n : Nat) {R : AV → HH → Prop} (h : (n = n ∧ n = n ∧ some (Blk.mk n (Cont.cells [AV.ptr (0 : Nat) n (0 : Nat), AV.v (Value.slice none (0 : Nat) (0 : Nat))] (41 : Nat)) true) = some (Blk.mk n (Cont.cells [AV.ptr (0 : Nat) n (0 : Nat), AV.v (Value.slice none (0 : Nat) (0 : Nat))] (41 : Nat)) true) ∧ some (Blk.mk n (Cont.cells [AV.ptr (0 : Nat) n (0 : Nat), AV.v (Value.slice none (0 : Nat) (0 : Nat))] (41 : Nat)) true) = some (Blk.mk n (Cont.cells [AV.ptr (0 : Nat) n (0 : Nat), AV.v (Value.slice none (0 : Nat) (0 : Nat))] (41 : Nat)) true) ∧ some (Blk.mk n (Cont.cells [AV.ptr (0 : Nat) n (0 : Nat), AV.v (Value.slice none (0 : Nat) (0 : Nat))] (41 : Nat)) true) = some (Blk.mk n (Cont.cells [AV.ptr (0 : Nat) n (0 : Nat), AV.v (Value.slice none (0 : Nat) (0 : Nat))] (41 : Nat)) true) ∧ R (AV.v (Value.string ByteArray.empty)) [Blk.mk n (Cont.cells [AV.ptr (0 : Nat) n (0 : Nat), AV.v (Value.slice none (0 : Nat) (0 : Nat))] (41 : Nat)) true])) : LC Tryd.prog 20 [.ptr 0 n 0] [⟨n, .cells [.ptr 0 n 0, .v (.slice none 0 0)] 41, true⟩] R :=
  lc_of_exec (tbl := st3) tab_ok st3_ok mixed noinv 2 _ Tryd.func20 rfl Tryd.ntmps20 (by decide) (by kernel_rfl) (Nat.le_of_ble_eq_true rfl) (@Eq.mpr (execN tab st3 noinv 2 Tryd.f20.ntmps [] none 0 (body Tryd.f20) (argsT [.ptr 0 n 0] 0) [⟨n, .cells [.ptr 0 n 0, .v (.slice none 0 0)] 41, true⟩] (post Tryd.f20 tab (retK R))) _ (by kernel_rfl) h)



set_option maxRecDepth 100000 in
theorem bs2_vc (n m cap : Nat) (B : ByteArray) {R : AV → HH → Prop} (h : (n = n ∧ n = n ∧ m = m ∧ cap = cap ∧ some (Blk.mk n (Cont.cells [AV.ptr (0 : Nat) n (0 : Nat), AV.sl (1 : Nat) m (0 : Nat) (1 : Nat) B.size cap] (41 : Nat)) true) = some (Blk.mk n (Cont.cells [AV.ptr (0 : Nat) n (0 : Nat), AV.sl (1 : Nat) m (0 : Nat) (1 : Nat) B.size cap] (41 : Nat)) true) ∧ m = m ∧ (↑B.size : Int) = (↑B.size : Int) ∧ some (Blk.mk n (Cont.cells [AV.ptr (0 : Nat) n (0 : Nat), AV.sl (1 : Nat) m (0 : Nat) (1 : Nat) B.size cap] (41 : Nat)) true) = some (Blk.mk n (Cont.cells [AV.ptr (0 : Nat) n (0 : Nat), AV.sl (1 : Nat) m (0 : Nat) (1 : Nat) B.size cap] (41 : Nat)) true) ∧ some (Blk.mk n (Cont.cells [AV.ptr (0 : Nat) n (0 : Nat), AV.sl (1 : Nat) m (0 : Nat) (1 : Nat) B.size cap] (41 : Nat)) true) = some (Blk.mk n (Cont.cells [AV.ptr (0 : Nat) n (0 : Nat), AV.sl (1 : Nat) m (0 : Nat) (1 : Nat) B.size cap] (41 : Nat)) true) ∧ R (AV.v (Value.string B)) [Blk.mk n (Cont.cells [AV.ptr (0 : Nat) n (0 : Nat), AV.sl (1 : Nat) m (0 : Nat) (1 : Nat) B.size cap] (41 : Nat)) true, Blk.mk m (Cont.buf B cap (5 : TypeId)) true])) : LC Tryd.prog 20 [.ptr 0 n 0] [⟨n, .cells [.ptr 0 n 0, .sl 1 m 0 1 B.size cap] 41, true⟩, ⟨m, .buf B cap 5, true⟩] R :=
  lc_of_exec (tbl := st3) tab_ok st3_ok mixed noinv 2 _ Tryd.func20 rfl Tryd.ntmps20 (by decide) (by kernel_rfl) (Nat.le_of_ble_eq_true rfl) (@Eq.mpr (execN tab st3 noinv 2 Tryd.f20.ntmps [] none 0 (body Tryd.f20) (argsT [.ptr 0 n 0] 0) [⟨n, .cells [.ptr 0 n 0, .sl 1 m 0 1 B.size cap] 41, true⟩, ⟨m, .buf B cap 5, true⟩] (post Tryd.f20 tab (retK R))) _ (by kernel_rfl) h)

end Go.Proofs.YtdokphikobfakaaDoor

