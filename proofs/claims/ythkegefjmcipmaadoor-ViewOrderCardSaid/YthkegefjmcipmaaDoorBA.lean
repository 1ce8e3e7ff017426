/- View: a Builder's methods: their conditions. -/
import Derived.Test.YthkegefjmcipmaaDoorA
import Derived.Test.YthkegefjmcipmaaDoorY11
import Derived.Test.YthkegefjmcipmaaDoorB
import Derived.Test.YthkegefjmcipmaaDoorY13
namespace Go.Proofs.YthkegefjmcipmaaDoor
open Go Go.Eng Go.Sp
set_option linter.unusedVariables false
set_option linter.unusedSimpArgs false


set_option maxRecDepth 100000 in
theorem ws0_vc (n : Nat) (s : ByteArray) {R : AV → HH → Prop} (h : (n = n ∧ n = n ∧ n = n ∧ n = n ∧ n = n ∧ br (s.size.beq (0 : Nat)) (n = n ∧ R (AV.tup [AV.v (Value.int IntKind.i64 (↑s.size : Int)), AV.v Value.nilIface]) [Blk.mk n (Cont.cells [AV.ptr (0 : Nat) n (0 : Nat), AV.v (Value.slice none (0 : Nat) (0 : Nat))] (78 : Nat)) true]) ((s.size ≤ (9223372036854775807 : Nat) ∧ (s.size + s.size / (4 : Nat) + (192 : Nat)) * (1 : Nat) ≤ (281474976710656 : Nat)) ∧ ∀ (n1 n2 : Nat), s.size ≤ n2 → n = n ∧ R (AV.tup [AV.v (Value.int IntKind.i64 (↑s.size : Int)), AV.v Value.nilIface]) [Blk.mk n (Cont.cells [AV.ptr (0 : Nat) n (0 : Nat), AV.sl (1 : Nat) n1 (0 : Nat) (1 : Nat) s.size n2] (78 : Nat)) true, Blk.mk n1 (Cont.buf s n2 (5 : Nat)) true]))) : LC Tryd.prog 41 [.ptr 0 n 0, .v (.string s)] [⟨n, .cells [.v (.pointer none), .v (.slice none 0 0)] 78, true⟩] R :=
  lc_of_exec (tbl := st3) tab_ok st3_ok mixed noinv 2 _ Tryd.func41 rfl Tryd.ntmps41 (by decide) (by kernel_rfl) (Nat.le_of_ble_eq_true rfl) (@Eq.mpr (execN tab st3 noinv 2 Tryd.f41.ntmps [] none 0 (body Tryd.f41) (argsT [.ptr 0 n 0, .v (.string s)] 0) [⟨n, .cells [.v (.pointer none), .v (.slice none 0 0)] 78, true⟩] (post Tryd.f41 tab (retK R))) _ (by kernel_rfl) h)



set_option maxRecDepth 100000 in
theorem ws1_vc (n : Nat) (s : ByteArray) {R : AV → HH → Prop} (h : (n = n ∧ n = n ∧ n = n ∧ n = n ∧ br (s.size.beq (0 : Nat)) (n = n ∧ R (AV.tup [AV.v (Value.int IntKind.i64 (↑s.size : Int)), AV.v Value.nilIface]) [Blk.mk n (Cont.cells [AV.ptr (0 : Nat) n (0 : Nat), AV.v (Value.slice none (0 : Nat) (0 : Nat))] (78 : Nat)) true]) ((s.size ≤ (9223372036854775807 : Nat) ∧ (s.size + s.size / (4 : Nat) + (192 : Nat)) * (1 : Nat) ≤ (281474976710656 : Nat)) ∧ ∀ (n1 n2 : Nat), s.size ≤ n2 → n = n ∧ R (AV.tup [AV.v (Value.int IntKind.i64 (↑s.size : Int)), AV.v Value.nilIface]) [Blk.mk n (Cont.cells [AV.ptr (0 : Nat) n (0 : Nat), AV.sl (1 : Nat) n1 (0 : Nat) (1 : Nat) s.size n2] (78 : Nat)) true, Blk.mk n1 (Cont.buf s n2 (5 : Nat)) true]))) : LC Tryd.prog 41 [.ptr 0 n 0, .v (.string s)] [⟨n, .cells [.ptr 0 n 0, .v (.slice none 0 0)] 78, true⟩] R :=
  lc_of_exec (tbl := st3) tab_ok st3_ok mixed noinv 2 _ Tryd.func41 rfl Tryd.ntmps41 (by decide) (by kernel_rfl) (Nat.le_of_ble_eq_true rfl) (@Eq.mpr (execN tab st3 noinv 2 Tryd.f41.ntmps [] none 0 (body Tryd.f41) (argsT [.ptr 0 n 0, .v (.string s)] 0) [⟨n, .cells [.ptr 0 n 0, .v (.slice none 0 0)] 78, true⟩] (post Tryd.f41 tab (retK R))) _ (by kernel_rfl) h)



set_option maxRecDepth 100000 in
theorem ws2_vc (n m cap : Nat) (B : ByteArray) (s : ByteArray) {R : AV → HH → Prop} (h : (n = n ∧ n = n ∧ n = n ∧ n = n ∧ m = m ∧ B.size = B.size ∧ cap = cap ∧ (B.size + s.size ≤ (9223372036854775807 : Nat) ∧ (B.size + s.size + (B.size + s.size) / (4 : Nat) + (192 : Nat)) * (1 : Nat) ≤ (281474976710656 : Nat)) ∧ ∀ (n1 n2 : Nat), (catS B s).size ≤ n2 → n = n ∧ R (AV.tup [AV.v (Value.int IntKind.i64 (↑s.size : Int)), AV.v Value.nilIface]) [Blk.mk n (Cont.cells [AV.ptr (0 : Nat) n (0 : Nat), AV.sl (1 : Nat) n1 (0 : Nat) (1 : Nat) (catS B s).size n2] (78 : Nat)) true, Blk.mk n1 (Cont.buf (catS B s) n2 (5 : Nat)) true])) : LC Tryd.prog 41 [.ptr 0 n 0, .v (.string s)] [⟨n, .cells [.ptr 0 n 0, .sl 1 m 0 1 B.size cap] 78, true⟩, ⟨m, .buf B cap 5, true⟩] R :=
  lc_of_exec (tbl := st3) tab_ok st3_ok mixed noinv 2 _ Tryd.func41 rfl Tryd.ntmps41 (by decide) (by kernel_rfl) (Nat.le_of_ble_eq_true rfl) (@Eq.mpr (execN tab st3 noinv 2 Tryd.f41.ntmps [] none 0 (body Tryd.f41) (argsT [.ptr 0 n 0, .v (.string s)] 0) [⟨n, .cells [.ptr 0 n 0, .sl 1 m 0 1 B.size cap] 78, true⟩, ⟨m, .buf B cap 5, true⟩] (post Tryd.f41 tab (retK R))) _ (by kernel_rfl) h)



set_option maxRecDepth 100000 in
theorem bs0_vc (n : Nat) {R : AV → HH → Prop} (h : (n = n ∧ n = n ∧ some (Blk.mk n (Cont.cells [AV.v (Value.pointer none), AV.v (Value.slice none (0 : Nat) (0 : Nat))] (78 : Nat)) true) = some (Blk.mk n (Cont.cells [AV.v (Value.pointer none), AV.v (Value.slice none (0 : Nat) (0 : Nat))] (78 : Nat)) true) ∧ some (Blk.mk n (Cont.cells [AV.v (Value.pointer none), AV.v (Value.slice none (0 : Nat) (0 : Nat))] (78 : Nat)) true) = some (Blk.mk n (Cont.cells [AV.v (Value.pointer none), AV.v (Value.slice none (0 : Nat) (0 : Nat))] (78 : Nat)) true) ∧ some (Blk.mk n (Cont.cells [AV.v (Value.pointer none), AV.v (Value.slice none (0 : Nat) (0 : Nat))] (78 : Nat)) true) = some (Blk.mk n (Cont.cells [AV.v (Value.pointer none), AV.v (Value.slice none (0 : Nat) (0 : Nat))] (78 : Nat)) true) ∧ R (AV.v (Value.string ByteArray.empty)) [Blk.mk n (Cont.cells [AV.v (Value.pointer none), AV.v (Value.slice none (0 : Nat) (0 : Nat))] (78 : Nat)) true])) : LC Tryd.prog 43 [.ptr 0 n 0] [⟨n, .cells [.v (.pointer none), .v (.slice none 0 0)] 78, true⟩] R :=
  lc_of_exec (tbl := st3) tab_ok st3_ok mixed noinv 2 _ Tryd.func43 rfl Tryd.ntmps43 (by decide) (by kernel_rfl) (Nat.le_of_ble_eq_true rfl) (@Eq.mpr (execN tab st3 noinv 2 Tryd.f43.ntmps [] none 0 (body Tryd.f43) (argsT [.ptr 0 n 0] 0) [⟨n, .cells [.v (.pointer none), .v (.slice none 0 0)] 78, true⟩] (post Tryd.f43 tab (retK R))) _ (by kernel_rfl) h)



set_option maxRecDepth 100000 in
theorem bs1_vc (n : Nat) {R : AV → HH → Prop} (h : (n = n ∧ n = n ∧ some (Blk.mk n (Cont.cells [AV.ptr (0 : Nat) n (0 : Nat), AV.v (Value.slice none (0 : Nat) (0 : Nat))] (78 : Nat)) true) = some (Blk.mk n (Cont.cells [AV.ptr (0 : Nat) n (0 : Nat), AV.v (Value.slice none (0 : Nat) (0 : Nat))] (78 : Nat)) true) ∧ some (Blk.mk n (Cont.cells [AV.ptr (0 : Nat) n (0 : Nat), AV.v (Value.slice none (0 : Nat) (0 : Nat))] (78 : Nat)) true) = some (Blk.mk n (Cont.cells [AV.ptr (0 : Nat) n (0 : Nat), AV.v (Value.slice none (0 : Nat) (0 : Nat))] (78 : Nat)) true) ∧ some (Blk.mk n (Cont.cells [AV.ptr (0 : Nat) n (0 : Nat), AV.v (Value.slice none (0 : Nat) (0 : Nat))] (78 : Nat)) true) = some (Blk.mk n (Cont.cells [AV.ptr (0 : Nat) n (0 : Nat), AV.v (Value.slice none (0 : Nat) (0 : Nat))] (78 : Nat)) true) ∧ R (AV.v (Value.string ByteArray.empty)) [Blk.mk n (Cont.cells [AV.ptr (0 : Nat) n (0 : Nat), AV.v (Value.slice none (0 : Nat) (0 : Nat))] (78 : Nat)) true])) : LC Tryd.prog 43 [.ptr 0 n 0] [⟨n, .cells [.ptr 0 n 0, .v (.slice none 0 0)] 78, true⟩] R :=
  lc_of_exec (tbl := st3) tab_ok st3_ok mixed noinv 2 _ Tryd.func43 rfl Tryd.ntmps43 (by decide) (by kernel_rfl) (Nat.le_of_ble_eq_true rfl) (@Eq.mpr (execN tab st3 noinv 2 Tryd.f43.ntmps [] none 0 (body Tryd.f43) (argsT [.ptr 0 n 0] 0) [⟨n, .cells [.ptr 0 n 0, .v (.slice none 0 0)] 78, true⟩] (post Tryd.f43 tab (retK R))) _ (by kernel_rfl) h)



set_option maxRecDepth 100000 in
theorem bs2_vc (n m cap : Nat) (B : ByteArray) {R : AV → HH → Prop} (h : (n = n ∧ n = n ∧ m = m ∧ cap = cap ∧ some (Blk.mk n (Cont.cells [AV.ptr (0 : Nat) n (0 : Nat), AV.sl (1 : Nat) m (0 : Nat) (1 : Nat) B.size cap] (78 : Nat)) true) = some (Blk.mk n (Cont.cells [AV.ptr (0 : Nat) n (0 : Nat), AV.sl (1 : Nat) m (0 : Nat) (1 : Nat) B.size cap] (78 : Nat)) true) ∧ m = m ∧ (↑B.size : Int) = (↑B.size : Int) ∧ some (Blk.mk n (Cont.cells [AV.ptr (0 : Nat) n (0 : Nat), AV.sl (1 : Nat) m (0 : Nat) (1 : Nat) B.size cap] (78 : Nat)) true) = some (Blk.mk n (Cont.cells [AV.ptr (0 : Nat) n (0 : Nat), AV.sl (1 : Nat) m (0 : Nat) (1 : Nat) B.size cap] (78 : Nat)) true) ∧ some (Blk.mk n (Cont.cells [AV.ptr (0 : Nat) n (0 : Nat), AV.sl (1 : Nat) m (0 : Nat) (1 : Nat) B.size cap] (78 : Nat)) true) = some (Blk.mk n (Cont.cells [AV.ptr (0 : Nat) n (0 : Nat), AV.sl (1 : Nat) m (0 : Nat) (1 : Nat) B.size cap] (78 : Nat)) true) ∧ R (AV.v (Value.string B)) [Blk.mk n (Cont.cells [AV.ptr (0 : Nat) n (0 : Nat), AV.sl (1 : Nat) m (0 : Nat) (1 : Nat) B.size cap] (78 : Nat)) true, Blk.mk m (Cont.buf B cap (5 : TypeId)) true])) : LC Tryd.prog 43 [.ptr 0 n 0] [⟨n, .cells [.ptr 0 n 0, .sl 1 m 0 1 B.size cap] 78, true⟩, ⟨m, .buf B cap 5, true⟩] R :=
  lc_of_exec (tbl := st3) tab_ok st3_ok mixed noinv 2 _ Tryd.func43 rfl Tryd.ntmps43 (by decide) (by kernel_rfl) (Nat.le_of_ble_eq_true rfl) (@Eq.mpr (execN tab st3 noinv 2 Tryd.f43.ntmps [] none 0 (body Tryd.f43) (argsT [.ptr 0 n 0] 0) [⟨n, .cells [.ptr 0 n 0, .sl 1 m 0 1 B.size cap] 78, true⟩, ⟨m, .buf B cap 5, true⟩] (post Tryd.f43 tab (retK R))) _ (by kernel_rfl) h)

end Go.Proofs.YthkegefjmcipmaaDoor

namespace Go.Eng
open Go.Sp

/-- A Builder's memory that nothing touched. -/
abbrev bRaw (n : Nat) : Blk := ⟨n, .cells [.v (.pointer none), .v (.slice none 0 0)] 78, true⟩

/-- A Builder's memory with bytes. -/
abbrev bHas (n : Nat) (B : ByteArray) (m cap : Nat) : HH := [⟨n, .cells [.ptr 0 n 0, .sl 1 m 0 1 B.size cap] 78, true⟩, ⟨m, .buf B cap 5, true⟩]

/-- A Builder in memory. -/
def bldC (x : Nat × ByteArray) (H0 : HH) : Prop :=
  (x.2.size = 0 ∧ H0 = [bRaw x.1]) ∨ (x.2.size = 0 ∧ H0 = [⟨x.1, .cells [.ptr 0 x.1 0, .v (.slice none 0 0)] 78, true⟩]) ∨
  ∃ m cap, H0 = bHas x.1 x.2 m cap

theorem bldC_own (x : Nat × ByteArray) (H0 : HH) (h : bldC x H0) : allOwn H0 := by
  rcases h with ⟨_, rfl⟩ | ⟨_, rfl⟩ | ⟨m, cap, rfl⟩
  · intro b hb; simp at hb; rcases hb with rfl; rfl
  · intro b hb; simp at hb; rcases hb with rfl; rfl
  · intro b hb; simp at hb; rcases hb with rfl | rfl <;> rfl

/-- A Builder as one known block. -/
abbrev bB (n : Nat) (B : ByteArray) (S : List Nat) : Blk := packB bldC n (n, B) S

/-- Where a Builder with these bytes is. -/
def bldAt (H : HH) (id n : Nat) (B : ByteArray) : Prop := (∃ S, nth H id = some (bB n B S)) ∨ (B.size = 0 ∧ nth H id = some (bRaw n))

def wsH : Handler := fun _ args H K =>
  match args with
  | [.ptr id n 0, .v (.string s)] => ∃ B, bldAt H id n B ∧ B.size + s.size ≤ 35184372088832 ∧ ∀ S', K (.ret (.tup [.v (.int .i64 (s.size : Int)), .v .nilIface])) (H.set id (bB n (catS B s) S'))
  | _ => False

def bstrH : Handler := fun _ args H K =>
  match args with
  | [.ptr id n 0] => ∃ B, bldAt H id n B ∧ ∀ S', K (.ret (.v (.string B))) (H.set id (bB n B S'))
  | _ => False
end Go.Eng
namespace Go.Proofs.YthkegefjmcipmaaDoor
open Go Go.Eng Go.Sp
set_option linter.unusedVariables false
set_option linter.unusedSimpArgs false

theorem nil_of_size {B : ByteArray} (h : B.size = 0) : B = ByteArray.empty := by
  obtain ⟨d⟩ := B
  have : d.size = 0 := h
  have : d = #[] := Array.eq_empty_of_size_eq_zero this
  rw [this]; rfl

theorem cat_nil' {B s : ByteArray} (h : B.size = 0) : catS B s = s := by
  rw [nil_of_size h]
  exact nil_cat s

theorem ws_all (n : Nat) (s B : ByteArray) (hB : B.size + s.size ≤ 35184372088832) (H0 : HH) (h : bldC (n, B) H0) : LC Tryd.prog 41 [.ptr 0 n 0, .v (.string s)] H0 (fun z H' => z = .tup [.v (.int .i64 (s.size : Int)), .v .nilIface] ∧ ∃ N', LeH H' N' ∧ bldC (n, catS B s) N') := by
  rcases h with ⟨e, rfl⟩ | ⟨e, rfl⟩ | ⟨m, cap, rfl⟩
  · refine ws0_vc n s ⟨rfl, rfl, rfl, rfl, rfl, br_intro (fun hz => ⟨rfl, rfl, _, LeH.refl _, .inr (.inl ⟨?_, rfl⟩)⟩) (fun hz => ⟨⟨by omega, by omega⟩, fun n2 n3 _ => ⟨rfl, rfl, bHas n s n2 n3, LeH.refl _, .inr (.inr ⟨n2, n3, by rw [cat_nil' e]⟩)⟩⟩)⟩
    · show (catS B s).size = 0
      rw [cat_nil' e]; exact Nat.eq_of_beq_eq_true hz
  · refine ws1_vc n s ⟨rfl, rfl, rfl, rfl, br_intro (fun hz => ⟨rfl, rfl, _, LeH.refl _, .inr (.inl ⟨?_, rfl⟩)⟩) (fun hz => ⟨⟨by omega, by omega⟩, fun n2 n3 _ => ⟨rfl, rfl, bHas n s n2 n3, LeH.refl _, .inr (.inr ⟨n2, n3, by rw [cat_nil' e]⟩)⟩⟩)⟩
    · show (catS B s).size = 0
      rw [cat_nil' e]; exact Nat.eq_of_beq_eq_true hz
  · have hB : B.size + s.size ≤ 35184372088832 := hB
    exact ws2_vc n m cap B s ⟨rfl, rfl, rfl, rfl, rfl, rfl, rfl, ⟨by omega, by omega⟩, fun n2 n3 _ => ⟨rfl, rfl, _, LeH.refl _, .inr (.inr ⟨n2, n3, rfl⟩)⟩⟩

theorem bs_all (n : Nat) (B : ByteArray) (H0 : HH) (h : bldC (n, B) H0) : LC Tryd.prog 43 [.ptr 0 n 0] H0 (fun z H' => z = .v (.string B) ∧ ∃ N', LeH H' N' ∧ bldC (n, B) N') := by
  rcases h with ⟨e, rfl⟩ | ⟨e, rfl⟩ | ⟨m, cap, rfl⟩
  · have e : B.size = 0 := e
    obtain rfl := nil_of_size e
    exact bs0_vc n ⟨rfl, rfl, rfl, rfl, rfl, rfl, _, LeH.refl _, .inl ⟨e, rfl⟩⟩
  · have e : B.size = 0 := e
    obtain rfl := nil_of_size e
    exact bs1_vc n ⟨rfl, rfl, rfl, rfl, rfl, rfl, _, LeH.refl _, .inr (.inl ⟨e, rfl⟩)⟩
  · exact bs2_vc n m cap B ⟨rfl, rfl, rfl, rfl, rfl, rfl, rfl, rfl, rfl, rfl, _, LeH.refl _, .inr (.inr ⟨m, cap, rfl⟩)⟩

/-- A method of a Builder as a handler. -/
theorem bld_ok {f : FuncId} {hd : Handler} (he : Enters Tryd.prog f) (h : ∀ rs args H K, hd rs args H K → ∃ (id n : Nat) (B B' : ByteArray) (args' : List AV) (z' : AV), denL args' = denL args ∧ bldAt H id n B ∧ (∀ H0, bldC (n, B) H0 → LC Tryd.prog f args' H0 (fun z H' => z = z' ∧ ∃ N', LeH H' N' ∧ bldC (n, B') N')) ∧ ∀ S', K (.ret z') (H.set id (bB n B' S'))) : HOk Tryd.prog f hd := by
  refine parcel_ok (C := bldC) bldC_own he fun rs args H K hk => ?_
  obtain ⟨id, n, B, B', args', z', h1, h2, h3, h4⟩ := h rs args H K hk
  have go : ∀ H0, bldC (n, B) H0 → LC Tryd.prog f args' H0 (fun z H' => ∃ (x' : Nat × ByteArray) (N' Nx : HH) (z2 : AV), LeH H' (N' ++ Nx) ∧ bldC x' N' ∧ z2.den = z.den ∧ ∀ S', K (.ret z2) (H.set id (packB bldC n x' S') ++ Nx)) := fun H0 hc => (h3 H0 hc).mono fun z H' hz => by
    obtain ⟨rfl, N', e1, e2⟩ := hz
    exact ⟨(n, B'), N', [], z, by rw [List.append_nil]; exact e1, e2, rfl, fun S' => by rw [List.append_nil]; exact h4 S'⟩
  refine ⟨id, n, (n, B), args', h1, ?_⟩
  rcases h2 with ⟨S, h2⟩ | ⟨e, h2⟩
  · exact .inl ⟨S, h2, go⟩
  · exact .inr ⟨_, h2, go _ (.inl ⟨e, rfl⟩)⟩

theorem wsH_ok : HOk Tryd.prog 41 wsH := bld_ok (enters_of (c := body Tryd.f41) Tryd.func41 rfl (by kernel_rfl)) fun rs args H K hk => by
  unfold wsH at hk
  split at hk
  · rename_i id n s
    obtain ⟨B, h1, h2, hk⟩ := hk
    exact ⟨id, n, B, _, [.ptr 0 n 0, .v (.string s)], _, rfl, h1, ws_all n s B h2, hk⟩
  · exact hk.elim
theorem bstrH_ok : HOk Tryd.prog 43 bstrH := bld_ok (enters_of (c := body Tryd.f43) Tryd.func43 rfl (by kernel_rfl)) fun rs args H K hk => by
  unfold bstrH at hk
  split at hk
  · rename_i id n
    obtain ⟨B, h1, hk⟩ := hk
    exact ⟨id, n, B, _, [.ptr 0 n 0], _, rfl, h1, bs_all n B, hk⟩
  · exact hk.elim
end Go.Proofs.YthkegefjmcipmaaDoor

