/- Undo: names gathered. -/
import Derived.Test.YtkjnkepdhbpnbaaS
import Derived.Test.YtkjnkepdhbpnbaaEngL
namespace Go.Sp
open Go.Eng

/-- The name of a mark. -/
def nmB (es : MK) (b : Nat) : ByteArray := ((es.find? fun e => Nat.beq e.2 b).map fun e => e.1.1).getD (ByteArray.mk #[])

theorem nmB_in {es : MK} (hk : (es.map (·.2)).Nodup) {a : ByteArray × Int} {b : Nat} (h : (a, b) ∈ es) : nmB es b = a.1 := by
  unfold nmB
  cases hf : es.find? fun e => Nat.beq e.2 b with
  | none =>
    have := List.find?_eq_none.1 hf _ h
    simp at this
  | some e =>
    have h1 := List.mem_of_find?_eq_some hf
    have h2 : e.2 = b := Nat.eq_of_beq_eq_true (List.find?_some (p := fun e : (ByteArray × Int) × Nat => Nat.beq e.2 b) hf)
    have : e.1 = a := born_one hk (b := b) (by rw [← h2]; exact h1) h
    rw [← this]; rfl

/-- Names gathered on the way. -/
def namesR (es : MK) (r : List Nat) : List ByteArray := r.reverse.map (nmB es)
@[simp] theorem namesR_len (es : MK) (r : List Nat) : (namesR es r).length = r.length := by simp [namesR]

theorem namesR_cons (es : MK) (b : Nat) (r : List Nat) : namesR es (b :: r) = namesR es r ++ [nmB es b] := by simp [namesR]

theorem names_perm {es : MK} (hk : (es.map (·.2)).Nodup) {r : List Nat} (hr : r.Nodup) (h1 : ∀ b ∈ r, b ∈ es.map (·.2)) (h2 : ∀ a b, (a, b) ∈ es → b ∈ r) : (namesR es r).Perm (es.map fun e => e.1.1) := by
  have p : r.reverse.Perm (es.map (·.2)) := (List.reverse_perm r).trans <| by
    refine (List.perm_ext_iff_of_nodup hr hk).2 fun b => ⟨h1 b, fun hb => ?_⟩
    obtain ⟨e, he, rfl⟩ := List.mem_map.1 hb
    exact h2 e.1 e.2 he
  have := p.map (nmB es)
  refine this.trans (List.Perm.of_eq ?_)
  rw [List.map_map]
  exact List.map_congr_left fun e he => nmB_in hk (a := e.1) he

end Go.Sp
namespace Go.Eng
open Go.Sp

/-- How far the names are gathered. -/
structure KX where
  r : List Nat
  a : Option Addr
  n : Nat
  cap : Nat
  S : List Nat

/-- What is known at the head of the loop over the map. -/
def collJ (es : MK) : Inv := fun _ T H =>
  match H with
  | b0 :: b1 :: ⟨n1, .cells _ ty, o1⟩ :: b3 :: ⟨n3, .itere mi mn c _, o3⟩ :: [] =>
    .inv KX (fun x => (T, [b0, b1, ⟨n1, .cells [.os 5 x.a x.n 0 0 1 x.r.length x.cap] ty, o1⟩, b3, ⟨n3, .itere mi mn c x.r, o3⟩, ⟨x.n, .lst 0 x.r.length [.strs (atS (namesR es x.r))] x.S (some (x.cap, 9)), true⟩]))
      (fun x => x.r.Nodup ∧ (∀ b ∈ x.r, b ∈ es.map (·.2)) ∧ emptyOk x.a x.n x.r.length x.cap) (fun x => es.length - x.r.length)
  | _ => .unroll 0
end Go.Eng
namespace Go.Proofs.Ytkjnkepdhbpnbaa
open Go Go.Eng Go.Sp
set_option linter.unusedVariables false
set_option linter.unusedSimpArgs false

def keysE (J : Inv) : Handler := inlH tab [] J 2 Try.f43 2

set_option maxRecDepth 100000 in
theorem keysE_ok (J : Inv) : HOk Try.prog 43 (keysE J) :=
  inl_ok (tbl := []) tab_ok trivial mixed J 2 _ 2 Try.func43 rfl Try.ntmps43 (by decide) (by kernel_rfl) (Nat.le_of_ble_eq_true rfl)

def tbG (J : Inv) : Tbl := (4294967294, .ext mergeFlag) :: (43, .gen (keysE J)) :: []

theorem tbG_ok (J : Inv) : TblOk Try.prog (tbG J) := ⟨flag_ok, keysE_ok J, trivial⟩

def seqE (J : Inv) : Handler := inlH tab (tbG J) noinv 2 Try.f47 2

set_option maxRecDepth 100000 in
theorem seqE_ok (J : Inv) : HOk Try.prog 47 (seqE J) :=
  inl_ok (tbl := tbG J) tab_ok (tbG_ok J) mixed noinv 2 _ 2 Try.func47 rfl Try.ntmps47 (by decide) (by kernel_rfl) (Nat.le_of_ble_eq_true rfl)

def tbG2 (J : Inv) : Tbl := (47, .gen (seqE J)) :: []

theorem tbG2_ok (J : Inv) : TblOk Try.prog (tbG2 J) := ⟨seqE_ok J, trivial⟩


set_option maxRecDepth 100000 in
theorem coll_vc (kn mn : Nat) (es : MK) (clock : Nat) {R : AV → HH → Prop} (h : (∀ (n1 n2 : Nat),
 kn = kn ∧
 mn = mn ∧
 ∀ (n3 : Nat),
 (∃ (x : KX), (x.r.Nodup ∧ (∀ (b : Nat), b ∈ x.r → b ∈ List.map (fun (x : (ByteArray × Int) × Nat) => x.snd) es) ∧ emptyOk x.a x.n x.r.length x.cap) ∧ ((AV.ptr (4 : Nat) n3 (0 : Nat)).den = (AV.ptr (4 : Nat) n3 (0 : Nat)).den ∧ (AV.mp (1 : Nat) mn).den = (AV.mp (1 : Nat) mn).den ∧ (AV.yl (3 : Nat) n2).den = (AV.yl (3 : Nat) n2).den ∧ (AV.ptr (0 : Nat) kn (0 : Nat)).den = (AV.ptr (0 : Nat) kn (0 : Nat)).den ∧ True) ∧ LeH [Blk.mk kn (Cont.cells [AV.mp (1 : Nat) mn] (53 : Nat)) false, Blk.mk mn (Cont.mape (ByteArray × Int) kyM vlM mkM es clock) false, Blk.mk n1 (Cont.cells [AV.v (Value.slice none (0 : Nat) (0 : Nat))] (45 : Nat)) true, Blk.mk n2 (Cont.loopc (0 : Nat) LoopState.ready none (putT (putT (putT [((0 : Nat), AV.v (Value.slice none (0 : Nat) (0 : Nat))), ((1 : Nat), AV.fn (Fn.func (43 : FuncId)) [] [AV.ptr (0 : Nat) kn (0 : Nat)])] (Oper.mk (some (2 : Nat)) (Op.box (45 : Nat) (Operand.tmp (0 : Nat))) (0 : Nat) "iter.go:50" #[] none).dst (AV.ptr (2 : Nat) n1 (0 : Nat))) (Oper.mk (some (4 : Nat)) (Op.assign (Operand.const (Value.slice none (0 : Nat) (0 : Nat)))) (45 : Nat) "iter.go:50" #[] none).dst (AV.v (Value.slice none (0 : Nat) (0 : Nat)))) (Oper.mk (some (6 : Nat)) (Op.move (Operand.tmp (1 : Nat))) (67 : Nat) "iter.go:51" #[] none).dst (AV.fn (Fn.func (43 : FuncId)) [] [AV.ptr (0 : Nat) kn (0 : Nat)])) (13 : Nat) #[(7 : Nat)].toList (rfA Try.f47 (0 : Nat)) (rfB Try.f47 (0 : Nat))) true, Blk.mk n3 (Cont.itere (1 : Nat) mn clock []) true] [Blk.mk kn (Cont.cells [AV.mp (1 : Nat) mn] (53 : Nat)) false, Blk.mk mn (Cont.mape (ByteArray × Int) kyM vlM mkM es clock) false, Blk.mk n1 (Cont.cells [AV.os (5 : Nat) x.a x.n (0 : Nat) (0 : Nat) (1 : Nat) x.r.length x.cap] (45 : Nat)) true, Blk.mk n2 (Cont.loopc (0 : Nat) LoopState.ready none (putT (putT (putT [((0 : Nat), AV.v (Value.slice none (0 : Nat) (0 : Nat))), ((1 : Nat), AV.fn (Fn.func (43 : FuncId)) [] [AV.ptr (0 : Nat) kn (0 : Nat)])] (Oper.mk (some (2 : Nat)) (Op.box (45 : Nat) (Operand.tmp (0 : Nat))) (0 : Nat) "iter.go:50" #[] none).dst (AV.ptr (2 : Nat) n1 (0 : Nat))) (Oper.mk (some (4 : Nat)) (Op.assign (Operand.const (Value.slice none (0 : Nat) (0 : Nat)))) (45 : Nat) "iter.go:50" #[] none).dst (AV.v (Value.slice none (0 : Nat) (0 : Nat)))) (Oper.mk (some (6 : Nat)) (Op.move (Operand.tmp (1 : Nat))) (67 : Nat) "iter.go:51" #[] none).dst (AV.fn (Fn.func (43 : FuncId)) [] [AV.ptr (0 : Nat) kn (0 : Nat)])) (13 : Nat) #[(7 : Nat)].toList (rfA Try.f47 (0 : Nat)) (rfB Try.f47 (0 : Nat))) true, Blk.mk n3 (Cont.itere (1 : Nat) mn clock x.r) true, Blk.mk x.n (Cont.lst (0 : Nat) x.r.length [Col.strs (atS (namesR es x.r))] x.S (some (x.cap, (9 : TypeId)))) true]) ∧
 ∀ (x : KX),
 x.r.Nodup ∧ (∀ (b : Nat), b ∈ x.r → b ∈ List.map (fun (x : (ByteArray × Int) × Nat) => x.snd) es) ∧ emptyOk x.a x.n x.r.length x.cap →
 n3 = n3 ∧
 mn = mn ∧
 clock = clock ∧
 (∀ (a : ByteArray × Int) (n7 : Nat),
 (a, n7) ∈ es →
 ¬n7 ∈ x.r →
 n3 = n3 ∧
 mn = mn ∧
 clock = clock ∧
 (∃ (a : ByteArray × Int), List.Mem (a, n7) es) ∧
 ∀ (a : ByteArray × Int),
 (a, n7) ∈ es →
 n2 = n2 ∧
 n2 = n2 ∧
 n1 = n1 ∧
 ∀ (n12 : Nat),
 n12 = n12 ∧
 x.n = x.n ∧
 (0 : Nat) = (0 : Nat) ∧
 (0 : Nat) = (0 : Nat) ∧
 x.r.length ≤ x.r.length ∧
 x.cap = x.cap ∧
 (x.r.length = (0 : Nat) → x.cap = (0 : Nat) ∨ x.a = some (Addr.mk x.n (0 : Nat) none)) ∧
 (x.r.length + (1 : Nat) ≤ (9223372036854775807 : Nat) ∧ (x.r.length + (1 : Nat) + (x.r.length + (1 : Nat)) / (4 : Nat) + (192 : Nat)) * (16 : Nat) ≤ (281474976710656 : Nat)) ∧
 ∀ (a' : Option Addr) (n14 n15 : Nat) (S' : List Nat),
 x.r.length + (1 : Nat) ≤ n15 →
 emptyOk a' n14 (x.r.length + (1 : Nat)) n15 →
 n1 = n1 ∧
 n2 = n2 ∧
 ∃ (x' : KX),
 (x'.r.Nodup ∧ (∀ (b : Nat), b ∈ x'.r → b ∈ List.map (fun (x : (ByteArray × Int) × Nat) => x.snd) es) ∧ emptyOk x'.a x'.n x'.r.length x'.cap) ∧
 List.length es - x'.r.length < List.length es - x.r.length ∧
 ((AV.ptr (4 : Nat) n3 (0 : Nat)).den = (AV.ptr (4 : Nat) n3 (0 : Nat)).den ∧ (AV.mp (1 : Nat) mn).den = (AV.mp (1 : Nat) mn).den ∧ (AV.yl (3 : Nat) n2).den = (AV.yl (3 : Nat) n2).den ∧ (AV.ptr (0 : Nat) kn (0 : Nat)).den = (AV.ptr (0 : Nat) kn (0 : Nat)).den ∧ True) ∧
 LeH
 [Blk.mk kn (Cont.cells [AV.mp (1 : Nat) mn] (53 : Nat)) false, Blk.mk mn (Cont.mape (ByteArray × Int) kyM vlM mkM es clock) false, Blk.mk n1 (Cont.cells [AV.os (5 : Nat) a' n14 (0 : Nat) (0 : Nat) (1 : Nat) (x.r.length + (1 : Nat)) n15] (45 : Nat)) true, Blk.mk n2 (Cont.loopc (0 : Nat) LoopState.ready none [((6 : Nat), AV.fn (Fn.func (43 : FuncId)) [] [AV.ptr (0 : Nat) kn (0 : Nat)]), ((4 : Nat), AV.v (Value.slice none (0 : Nat) (0 : Nat))), ((2 : Nat), AV.ptr (2 : Nat) n1 (0 : Nat)), ((0 : Nat), AV.v (Value.slice none (0 : Nat) (0 : Nat))), ((1 : Nat), AV.fn (Fn.func (43 : FuncId)) [] [AV.ptr (0 : Nat) kn (0 : Nat)])] (13 : Nat) #[(7 : Nat)].toList (rfA Try.f47 (0 : Nat)) (rfB Try.f47 (0 : Nat))) true, Blk.mk n3 (Cont.itere (1 : Nat) mn clock (n7 :: x.r)) true,
 Blk.mk n14
 (Cont.lst (0 : Nat) (x.r.length + (1 : Nat))
 [Col.strs fun (i : Nat) =>
 if i < x.r.length then atS (namesR es x.r) i
 else
 if i < x.r.length + (1 : Nat) then
 match asS ((nth [AV.v (Value.string a.fst)] (((0 : Nat) + (i - x.r.length)) * (1 : Nat) + nat_lit 0)).getD (AV.v undef)) with
 | some x => x
 | none => ByteArray.empty
 else ByteArray.empty]
 S' (some (n15, (9 : Nat))))
 true,
 Blk.mk n12 (Cont.cells [AV.v (Value.string a.fst)] (9 : Nat)) true]
 [Blk.mk kn (Cont.cells [AV.mp (1 : Nat) mn] (53 : Nat)) false, Blk.mk mn (Cont.mape (ByteArray × Int) kyM vlM mkM es clock) false, Blk.mk n1 (Cont.cells [AV.os (5 : Nat) x'.a x'.n (0 : Nat) (0 : Nat) (1 : Nat) x'.r.length x'.cap] (45 : Nat)) true, Blk.mk n2 (Cont.loopc (0 : Nat) LoopState.ready none (putT (putT (putT [((0 : Nat), AV.v (Value.slice none (0 : Nat) (0 : Nat))), ((1 : Nat), AV.fn (Fn.func (43 : FuncId)) [] [AV.ptr (0 : Nat) kn (0 : Nat)])] (Oper.mk (some (2 : Nat)) (Op.box (45 : Nat) (Operand.tmp (0 : Nat))) (0 : Nat) "iter.go:50" #[] none).dst (AV.ptr (2 : Nat) n1 (0 : Nat))) (Oper.mk (some (4 : Nat)) (Op.assign (Operand.const (Value.slice none (0 : Nat) (0 : Nat)))) (45 : Nat) "iter.go:50" #[] none).dst (AV.v (Value.slice none (0 : Nat) (0 : Nat)))) (Oper.mk (some (6 : Nat)) (Op.move (Operand.tmp (1 : Nat))) (67 : Nat) "iter.go:51" #[] none).dst (AV.fn (Fn.func (43 : FuncId)) [] [AV.ptr (0 : Nat) kn (0 : Nat)])) (13 : Nat) #[(7 : Nat)].toList (rfA Try.f47 (0 : Nat)) (rfB Try.f47 (0 : Nat))) true, Blk.mk n3 (Cont.itere (1 : Nat) mn clock x'.r) true, Blk.mk x'.n (Cont.lst (0 : Nat) x'.r.length [Col.strs (atS (namesR es x'.r))] x'.S (some (x'.cap, (9 : TypeId)))) true]) ∧
 ((∀ (a : ByteArray × Int) (b : Nat), (a, b) ∈ es → b ∈ x.r) → n2 = n2 ∧ n1 = n1 ∧ R (AV.os (5 : Nat) x.a x.n (0 : Nat) (0 : Nat) (1 : Nat) x.r.length x.cap) [Blk.mk kn (Cont.cells [AV.mp (1 : Nat) mn] (53 : Nat)) false, Blk.mk mn (Cont.mape (ByteArray × Int) kyM vlM mkM es clock) false, Blk.mk n1 (Cont.cells [AV.os (5 : Nat) x.a x.n (0 : Nat) (0 : Nat) (1 : Nat) x.r.length x.cap] (45 : Nat)) true, Blk.mk n2 (Cont.loopc (0 : Nat) LoopState.exhausted none (putT (putT (putT [((0 : Nat), AV.v (Value.slice none (0 : Nat) (0 : Nat))), ((1 : Nat), AV.fn (Fn.func (43 : FuncId)) [] [AV.ptr (0 : Nat) kn (0 : Nat)])] (Oper.mk (some (2 : Nat)) (Op.box (45 : Nat) (Operand.tmp (0 : Nat))) (0 : Nat) "iter.go:50" #[] none).dst (AV.ptr (2 : Nat) n1 (0 : Nat))) (Oper.mk (some (4 : Nat)) (Op.assign (Operand.const (Value.slice none (0 : Nat) (0 : Nat)))) (45 : Nat) "iter.go:50" #[] none).dst (AV.v (Value.slice none (0 : Nat) (0 : Nat)))) (Oper.mk (some (6 : Nat)) (Op.move (Operand.tmp (1 : Nat))) (67 : Nat) "iter.go:51" #[] none).dst (AV.fn (Fn.func (43 : FuncId)) [] [AV.ptr (0 : Nat) kn (0 : Nat)])) (13 : Nat) #[(7 : Nat)].toList (rfA Try.f47 (0 : Nat)) (rfB Try.f47 (0 : Nat))) true, Blk.mk n3 (Cont.itere (1 : Nat) mn clock x.r) true, Blk.mk x.n (Cont.lst (0 : Nat) x.r.length [Col.strs (atS (namesR es x.r))] x.S (some (x.cap, (9 : TypeId)))) true]))) : LC Try.prog 41 [.fn (.func 43) [] [.ptr 0 kn 0]] [⟨kn, .cells [.mp 1 mn] 53, false⟩, ⟨mn, .mape (ByteArray × Int) kyM vlM mkM es clock, false⟩] R :=
  lc_of_exec (tbl := (tbG2 (collJ es))) tab_ok (tbG2_ok _) mixed noinv 2 _ Try.func41 rfl Try.ntmps41 (by decide) (by kernel_rfl) (Nat.le_of_ble_eq_true rfl) (@Eq.mpr (execN tab (tbG2 (collJ es)) noinv 2 Try.f41.ntmps [] none 0 (body Try.f41) (argsT [.fn (.func 43) [] [.ptr 0 kn 0]] 0) [⟨kn, .cells [.mp 1 mn] 53, false⟩, ⟨mn, .mape (ByteArray × Int) kyM vlM mkM es clock, false⟩] (post Try.f41 tab (retK R))) _ (by kernel_rfl) h)

end Go.Proofs.Ytkjnkepdhbpnbaa

