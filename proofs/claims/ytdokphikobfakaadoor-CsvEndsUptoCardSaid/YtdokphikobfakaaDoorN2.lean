/- Csv: a Builder as a parcel; its methods as handlers. -/
import Derived.Test.YtdokphikobfakaaDoorN1
import Derived.Test.YtdokphikobfakaaDoorN
namespace Go.Eng
open Go.Sp

theorem LeB.cells {n : Nat} {l l' : List AV} {ty : TypeId} {own own' : Bool} (h : denL l = denL l') (ho : own' = true → own = true) : LeB ⟨n, .cells l ty, own⟩ ⟨n, .cells l' ty, own'⟩ :=
  ⟨fun k hk => hk, ho, fun w hw => by
    show Held w n (denL l') ty
    rw [← h]; exact hw⟩

/-- A Builder's memory that nothing touched. -/
abbrev bRaw (n : Nat) : Blk := ⟨n, .cells [.v (.pointer none), .v (.slice none 0 0)] 41, true⟩

/-- A Builder's memory with bytes. -/
abbrev bHas (n : Nat) (B : ByteArray) (m cap : Nat) : HH := [⟨n, .cells [.ptr 0 n 0, .sl 1 m 0 1 B.size cap] 41, true⟩, ⟨m, .buf B cap 5, true⟩]

/-- A Builder in memory. -/
def bldC (x : Nat × ByteArray) (H0 : HH) : Prop :=
  (x.2.size = 0 ∧ H0 = [bRaw x.1]) ∨ (x.2.size = 0 ∧ H0 = [⟨x.1, .cells [.ptr 0 x.1 0, .v (.slice none 0 0)] 41, true⟩]) ∨
  ∃ m cap, H0 = bHas x.1 x.2 m cap

theorem bldC_own (x : Nat × ByteArray) (H0 : HH) (h : bldC x H0) : allOwn H0 := by
  rcases h with ⟨_, rfl⟩ | ⟨_, rfl⟩ | ⟨m, cap, rfl⟩
  · intro b hb; simp at hb; rcases hb with rfl; rfl
  · intro b hb; simp at hb; rcases hb with rfl; rfl
  · intro b hb; simp at hb; rcases hb with rfl | rfl <;> rfl

/-- A Builder as one known block. -/
abbrev bB (n : Nat) (B : ByteArray) (S : List Nat) : Blk := packB bldC n (n, B) S

/-- Where a Builder with these bytes is. -/
def bldAt (H : HH) (id n : Nat) (B : ByteArray) : Prop := (∃ S, nth H id = some (bB n B S)) ∨ (B.size = 0 ∧ nth H id = some (bRaw n))

def wbH : Handler := fun _ args H K =>
  match args with
  | [.ptr id n 0, .v (.int .u8 c)] => ∃ B, bldAt H id n B ∧ 0 ≤ c ∧ c ≤ 255 ∧ B.size ≤ 35184372088832 ∧ ∀ S', K (.ret (.v .nilIface)) (H.set id (bB n (pushB B c.toNat.toUInt8) S'))
  | _ => False

def wsH : Handler := fun _ args H K =>
  match args with
  | [.ptr id n 0, .v (.string s)] => ∃ B, bldAt H id n B ∧ B.size + s.size ≤ 35184372088832 ∧ ∀ S', K (.ret (.tup [.v (.int .i64 (s.size : Int)), .v .nilIface])) (H.set id (bB n (catS B s) S'))
  | _ => False

def bstrH : Handler := fun _ args H K =>
  match args with
  | [.ptr id n 0] => ∃ B, bldAt H id n B ∧ ∀ S', K (.ret (.v (.string B))) (H.set id (bB n B S'))
  | _ => False
end Go.Eng
namespace Go.Proofs.YtdokphikobfakaaDoor
open Go Go.Eng Go.Sp
set_option linter.unusedVariables false
set_option linter.unusedSimpArgs false

theorem nil_of_size {B : ByteArray} (h : B.size = 0) : B = ByteArray.empty := by
  obtain ⟨d⟩ := B
  have : d.size = 0 := h
  have : d = #[] := Array.eq_empty_of_size_eq_zero this
  rw [this]; rfl

theorem mkI_one (c : Int) : (mkI [c]).data.toList = [c.toNat.toUInt8] := by simp [mkI]
theorem mkI_push {B : ByteArray} (c : Int) (h : B.size = 0) : mkI [c] = pushB B c.toNat.toUInt8 := by
  rw [nil_of_size h]
  apply ByteArray.ext
  apply Array.ext'
  rw [toList_pushB, mkI_one]
  rfl
theorem catI_push {B : ByteArray} (c : Int) : catS B (mkI [c]) = pushB B c.toNat.toUInt8 := by
  apply ByteArray.ext
  apply Array.ext'
  rw [toList_pushB, toList_catS, mkI_one]
theorem cat_nil {B s : ByteArray} (h : B.size = 0) : catS B s = s := by
  rw [nil_of_size h]
  apply ByteArray.ext
  apply Array.ext'
  rw [toList_catS]
  rfl

theorem mkI_size (c : Int) : (mkI [c]).size = 1 := by
  have := congrArg List.length (mkI_one c)
  simpa using this

theorem wb_all (n : Nat) (c : Int) (B : ByteArray) (h0 : 0 ≤ c) (h1 : c ≤ 255) (hB : B.size ≤ 35184372088832) (H0 : HH) (h : bldC (n, B) H0) : LC Tryd.prog 16 [.ptr 0 n 0, .v (.int .u8 c)] H0 (fun z H' => z = .v .nilIface ∧ ∃ N', LeH H' N' ∧ bldC (n, pushB B c.toNat.toUInt8) N') := by
  have hin : ∀ (v : Int), v ∈ [c] → (0 : Int) ≤ v ∧ v ≤ (255 : Int) := fun v hv => by cases List.mem_singleton.1 hv; exact ⟨h0, h1⟩
  have hs := mkI_size c
  rcases h with ⟨e, rfl⟩ | ⟨e, rfl⟩ | ⟨m, cap, rfl⟩
  · have hp := mkI_push c e
    refine wb0_vc n c ⟨rfl, rfl, rfl, rfl, rfl, fun n1 => ⟨rfl, hin, ⟨by omega, by omega⟩, fun n2 n3 _ => ⟨rfl, rfl, bHas n (mkI [c]) n2 n3, leAt [0, 2] (by decide) ⟨?_, LeB.refl _, trivial⟩, .inr (.inr ⟨n2, n3, by rw [hp]⟩)⟩⟩⟩
    rw [← hs]; exact LeB.cells (by rw [hs]; rfl) fun h => h
  · have hp := mkI_push c e
    refine wb1_vc n c ⟨rfl, rfl, rfl, rfl, fun n1 => ⟨rfl, hin, ⟨by omega, by omega⟩, fun n2 n3 _ => ⟨rfl, rfl, bHas n (mkI [c]) n2 n3, leAt [0, 2] (by decide) ⟨?_, LeB.refl _, trivial⟩, .inr (.inr ⟨n2, n3, by rw [hp]⟩)⟩⟩⟩
    rw [← hs]; exact LeB.cells (by rw [hs]; rfl) fun h => h
  · have hB : B.size ≤ 35184372088832 := hB
    exact wb2_vc n m cap B c ⟨rfl, rfl, rfl, rfl, fun n1 => ⟨rfl, hin, rfl, rfl, rfl, ⟨by omega, by omega⟩, fun n2 n3 _ => ⟨rfl, rfl, bHas n (catS B (mkI [c])) n2 n3, leAt [0, 1] (by decide) ⟨LeB.refl _, LeB.refl _, trivial⟩, .inr (.inr ⟨n2, n3, by rw [catI_push]⟩)⟩⟩⟩

theorem ws_all (n : Nat) (s B : ByteArray) (hB : B.size + s.size ≤ 35184372088832) (H0 : HH) (h : bldC (n, B) H0) : LC Tryd.prog 19 [.ptr 0 n 0, .v (.string s)] H0 (fun z H' => z = .tup [.v (.int .i64 (s.size : Int)), .v .nilIface] ∧ ∃ N', LeH H' N' ∧ bldC (n, catS B s) N') := by
  rcases h with ⟨e, rfl⟩ | ⟨e, rfl⟩ | ⟨m, cap, rfl⟩
  · refine ws0_vc n s ⟨rfl, rfl, rfl, rfl, rfl, br_intro (fun hz => ⟨rfl, rfl, _, LeH.refl _, .inr (.inl ⟨?_, rfl⟩)⟩) (fun hz => ⟨⟨by omega, by omega⟩, fun n2 n3 _ => ⟨rfl, rfl, bHas n s n2 n3, LeH.refl _, .inr (.inr ⟨n2, n3, by rw [cat_nil e]⟩)⟩⟩)⟩
    · show (catS B s).size = 0
      rw [cat_nil e]; exact Nat.eq_of_beq_eq_true hz
  · refine ws1_vc n s ⟨rfl, rfl, rfl, rfl, br_intro (fun hz => ⟨rfl, rfl, _, LeH.refl _, .inr (.inl ⟨?_, rfl⟩)⟩) (fun hz => ⟨⟨by omega, by omega⟩, fun n2 n3 _ => ⟨rfl, rfl, bHas n s n2 n3, LeH.refl _, .inr (.inr ⟨n2, n3, by rw [cat_nil e]⟩)⟩⟩)⟩
    · show (catS B s).size = 0
      rw [cat_nil e]; exact Nat.eq_of_beq_eq_true hz
  · have hB : B.size + s.size ≤ 35184372088832 := hB
    exact ws2_vc n m cap B s ⟨rfl, rfl, rfl, rfl, rfl, rfl, rfl, ⟨by omega, by omega⟩, fun n2 n3 _ => ⟨rfl, rfl, _, LeH.refl _, .inr (.inr ⟨n2, n3, rfl⟩)⟩⟩

theorem bs_all (n : Nat) (B : ByteArray) (H0 : HH) (h : bldC (n, B) H0) : LC Tryd.prog 20 [.ptr 0 n 0] H0 (fun z H' => z = .v (.string B) ∧ ∃ N', LeH H' N' ∧ bldC (n, B) N') := by
  rcases h with ⟨e, rfl⟩ | ⟨e, rfl⟩ | ⟨m, cap, rfl⟩
  · have e : B.size = 0 := e
    obtain rfl := nil_of_size e
    exact bs0_vc n ⟨rfl, rfl, rfl, rfl, rfl, rfl, _, LeH.refl _, .inl ⟨e, rfl⟩⟩
  · have e : B.size = 0 := e
    obtain rfl := nil_of_size e
    exact bs1_vc n ⟨rfl, rfl, rfl, rfl, rfl, rfl, _, LeH.refl _, .inr (.inl ⟨e, rfl⟩)⟩
  · exact bs2_vc n m cap B ⟨rfl, rfl, rfl, rfl, rfl, rfl, rfl, rfl, rfl, rfl, _, LeH.refl _, .inr (.inr ⟨m, cap, rfl⟩)⟩

/-- A method of a Builder as a handler. -/
theorem bld_ok {f : FuncId} {hd : Handler} (he : Enters Tryd.prog f) (h : ∀ rs args H K, hd rs args H K → ∃ (id n : Nat) (B B' : ByteArray) (args' : List AV) (z' : AV), denL args' = denL args ∧ bldAt H id n B ∧ (∀ H0, bldC (n, B) H0 → LC Tryd.prog f args' H0 (fun z H' => z = z' ∧ ∃ N', LeH H' N' ∧ bldC (n, B') N')) ∧ ∀ S', K (.ret z') (H.set id (bB n B' S'))) : HOk Tryd.prog f hd := by
  refine parcel_ok (C := bldC) bldC_own he fun rs args H K hk => ?_
  obtain ⟨id, n, B, B', args', z', h1, h2, h3, h4⟩ := h rs args H K hk
  have go : ∀ H0, bldC (n, B) H0 → LC Tryd.prog f args' H0 (fun z H' => ∃ (x' : Nat × ByteArray) (N' Nx : HH) (z2 : AV), LeH H' (N' ++ Nx) ∧ bldC x' N' ∧ z2.den = z.den ∧ ∀ S', K (.ret z2) (H.set id (packB bldC n x' S') ++ Nx)) := fun H0 hc => (h3 H0 hc).mono fun z H' hz => by
    obtain ⟨rfl, N', e1, e2⟩ := hz
    exact ⟨(n, B'), N', [], z, by rw [List.append_nil]; exact e1, e2, rfl, fun S' => by rw [List.append_nil]; exact h4 S'⟩
  refine ⟨id, n, (n, B), args', h1, ?_⟩
  rcases h2 with ⟨S, h2⟩ | ⟨e, h2⟩
  · exact .inl ⟨S, h2, go⟩
  · exact .inr ⟨_, h2, go _ (.inl ⟨e, rfl⟩)⟩

theorem wbH_ok : HOk Tryd.prog 16 wbH := bld_ok (enters_of (c := body Tryd.f16) Tryd.func16 rfl (by kernel_rfl)) fun rs args H K hk => by
  unfold wbH at hk
  split at hk
  · rename_i id n c
    obtain ⟨B, h1, h2, h3, h4, hk⟩ := hk
    exact ⟨id, n, B, _, [.ptr 0 n 0, .v (.int .u8 c)], _, rfl, h1, wb_all n c B h2 h3 h4, hk⟩
  · exact hk.elim
theorem wsH_ok : HOk Tryd.prog 19 wsH := bld_ok (enters_of (c := body Tryd.f19) Tryd.func19 rfl (by kernel_rfl)) fun rs args H K hk => by
  unfold wsH at hk
  split at hk
  · rename_i id n s
    obtain ⟨B, h1, h2, hk⟩ := hk
    exact ⟨id, n, B, _, [.ptr 0 n 0, .v (.string s)], _, rfl, h1, ws_all n s B h2, hk⟩
  · exact hk.elim
theorem bstrH_ok : HOk Tryd.prog 20 bstrH := bld_ok (enters_of (c := body Tryd.f20) Tryd.func20 rfl (by kernel_rfl)) fun rs args H K hk => by
  unfold bstrH at hk
  split at hk
  · rename_i id n
    obtain ⟨B, h1, hk⟩ := hk
    exact ⟨id, n, B, _, [.ptr 0 n 0], _, rfl, h1, bs_all n B, hk⟩
  · exact hk.elim
end Go.Proofs.YtdokphikobfakaaDoor

