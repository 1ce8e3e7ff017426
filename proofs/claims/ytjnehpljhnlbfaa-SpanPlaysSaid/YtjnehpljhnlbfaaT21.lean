import Derived.Test.YtjnehpljhnlbfaaT19
import Derived.Test.YtjnehpljhnlbfaaEngL
namespace Go.Sp
open Go.Eng Go.Proofs.Ytjnehpljhnlbfaa
abbrev MR := List ((Int × RC) × Nat)
def nmB (es : MR) (b : Nat) : Int := ((es.find? fun e => Nat.beq e.2 b).map fun e => e.1.1).getD (0)
theorem nmB_in {es : MR} (hk : (es.map (·.2)).Nodup) {a : Int × RC} {b : Nat} (h : (a, b) ∈ es) : nmB es b = a.1 := by
  unfold nmB
  cases hf : es.find? fun e => Nat.beq e.2 b with
  | none =>
    have := List.find?_eq_none.1 hf _ h
    simp at this
  | some e =>
    have h1 := List.mem_of_find?_eq_some hf
    have h2 : e.2 = b := Nat.eq_of_beq_eq_true (List.find?_some (p := fun e : (Int × RC) × Nat => Nat.beq e.2 b) hf)
    have : e = (a, b) := nodup_inj hk h1 h h2
    rw [this]; rfl
def namesR (es : MR) (r : List Nat) : List Int := r.reverse.map (nmB es)
@[simp] theorem namesR_len (es : MR) (r : List Nat) : (namesR es r).length = r.length := by simp [namesR]
theorem namesR_cons (es : MR) (b : Nat) (r : List Nat) : namesR es (b :: r) = namesR es r ++ [nmB es b] := by simp [namesR]
theorem names_perm {es : MR} (hk : (es.map (·.2)).Nodup) {r : List Nat} (hr : r.Nodup) (h1 : ∀ b ∈ r, b ∈ es.map (·.2)) (h2 : ∀ a b, (a, b) ∈ es → b ∈ r) : (namesR es r).Perm (es.map fun e => e.1.1) := by
  have p : r.reverse.Perm (es.map (·.2)) := (List.reverse_perm r).trans <| by
    refine (List.perm_ext_iff_of_nodup hr hk).2 fun b => ⟨h1 b, fun hb => ?_⟩
    obtain ⟨e, he, rfl⟩ := List.mem_map.1 hb
    exact h2 e.1 e.2 he
  have := p.map (nmB es)
  refine this.trans (List.Perm.of_eq ?_)
  rw [List.map_map]
  exact List.map_congr_left fun e he => nmB_in hk (a := e.1) he
end Go.Sp
namespace Go.Eng
open Go.Sp
structure KX where
  r : List Nat
  a : Option Addr
  n : Nat
  cap : Nat
  S : List Nat
def collJ (es : MR) : Inv := fun _ T H =>
  match H with
  | b0 :: b1 :: ⟨n1, .cells _ ty, o1⟩ :: b3 :: ⟨n3, .itere mi mn c _, o3⟩ :: [] =>
    .inv KX (fun x => (T, [b0, b1, ⟨n1, .cells [.os 5 x.a x.n 0 0 1 x.r.length x.cap] ty, o1⟩, b3, ⟨n3, .itere mi mn c x.r, o3⟩, ⟨x.n, .lst 0 x.r.length [.ints .i64 (atI (namesR es x.r))] x.S (some (x.cap, 3)), true⟩]))
      (fun x => x.r.Nodup ∧ (∀ b ∈ x.r, b ∈ es.map (·.2)) ∧ emptyOk x.a x.n x.r.length x.cap) (fun x => es.length - x.r.length)
  | _ => .unroll 0
end Go.Eng
namespace Go.Proofs.Ytjnehpljhnlbfaa
open Go Go.Eng Go.Sp
set_option linter.unusedVariables false
set_option linter.unusedSimpArgs false
def keysE (J : Inv) : Handler := inlH tab [] J 2 Try.f57 2
set_option maxRecDepth 100000 in
theorem keysE_ok (J : Inv) : HOk Try.prog 57 (keysE J) :=
  inl_ok (tbl := []) tab_ok trivial mixed J 2 _ 2 Try.func57 rfl Try.ntmps57 (by decide) (by kernel_rfl) (Nat.le_of_ble_eq_true rfl)
def tbG (J : Inv) : Tbl := (4294967294, .ext mergeFlag) :: (57, .gen (keysE J)) :: []
theorem tbG_ok (J : Inv) : TblOk Try.prog (tbG J) := ⟨flag_ok, keysE_ok J, trivial⟩
def seqE (J : Inv) : Handler := inlH tab (tbG J) noinv 2 Try.f80 2
set_option maxRecDepth 100000 in
theorem seqE_ok (J : Inv) : HOk Try.prog 80 (seqE J) :=
  inl_ok (tbl := tbG J) tab_ok (tbG_ok J) mixed noinv 2 _ 2 Try.func80 rfl Try.ntmps80 (by decide) (by kernel_rfl) (Nat.le_of_ble_eq_true rfl)
def tbG2 (J : Inv) : Tbl := (80, .gen (seqE J)) :: []
theorem tbG2_ok (J : Inv) : TblOk Try.prog (tbG2 J) := ⟨seqE_ok J, trivial⟩
set_option maxRecDepth 100000 in
theorem coll_vc (kn mn : Nat) (es : MR) (clock : Nat) {R : AV → HH → Prop} (h : (∀ (n1 n2 : Nat), kn = kn ∧ mn = mn ∧ ∀ (n3 : Nat), (∃ (x : KX), (x.r.Nodup ∧ (∀ (b : Nat), b ∈ x.r → b ∈ List.map (fun (x : (Int × RC) × Nat) => x.snd) es) ∧ emptyOk x.a x.n x.r.length x.cap) ∧ ((AV.ptr 4 n3 0).den = (AV.ptr 4 n3 0).den ∧ (AV.mp 1 mn).den = (AV.mp 1 mn).den ∧ (AV.yl 3 n2).den = (AV.yl 3 n2).den ∧ (AV.ptr 0 kn 0).den = (AV.ptr 0 kn 0).den ∧ True) ∧ LeH [Blk.mk kn (Cont.cells [AV.mp 1 mn] 73) false, Blk.mk mn (Cont.mape (Int × RC) kyR vlR mkR es clock) false, Blk.mk n1 (Cont.cells [AV.v (Value.slice none 0 0)] 28) true, Blk.mk n2 (Cont.loopc 0 LoopState.ready none (putT (putT (putT [(0, AV.v (Value.slice none 0 0)), (1, AV.fn (Fn.func 57) [] [AV.ptr 0 kn 0])] (Oper.mk (some 2) (Op.box 28 (Operand.tmp 0)) 0 "iter.go:50" #[] none).dst (AV.ptr 2 n1 0)) (Oper.mk (some 4) (Op.assign (Operand.const (Value.slice none 0 0))) 28 "iter.go:50" #[] none).dst (AV.v (Value.slice none 0 0))) (Oper.mk (some 6) (Op.move (Operand.tmp 1)) 92 "iter.go:51" #[] none).dst (AV.fn (Fn.func 57) [] [AV.ptr 0 kn 0])) 13 #[7].toList (rfA Try.f80 0) (rfB Try.f80 0)) true, Blk.mk n3 (Cont.itere 1 mn clock []) true] [Blk.mk kn (Cont.cells [AV.mp 1 mn] 73) false, Blk.mk mn (Cont.mape (Int × RC) kyR vlR mkR es clock) false, Blk.mk n1 (Cont.cells [AV.os 5 x.a x.n 0 0 1 x.r.length x.cap] 28) true, Blk.mk n2 (Cont.loopc 0 LoopState.ready none (putT (putT (putT [(0, AV.v (Value.slice none 0 0)), (1, AV.fn (Fn.func 57) [] [AV.ptr 0 kn 0])] (Oper.mk (some 2) (Op.box 28 (Operand.tmp 0)) 0 "iter.go:50" #[] none).dst (AV.ptr 2 n1 0)) (Oper.mk (some 4) (Op.assign (Operand.const (Value.slice none 0 0))) 28 "iter.go:50" #[] none).dst (AV.v (Value.slice none 0 0))) (Oper.mk (some 6) (Op.move (Operand.tmp 1)) 92 "iter.go:51" #[] none).dst (AV.fn (Fn.func 57) [] [AV.ptr 0 kn 0])) 13 #[7].toList (rfA Try.f80 0) (rfB Try.f80 0)) true, Blk.mk n3 (Cont.itere 1 mn clock x.r) true, Blk.mk x.n (Cont.lst 0 x.r.length [Col.ints IntKind.i64 (atI (namesR es x.r))] x.S (some (x.cap, 3))) true]) ∧ ∀ (x : KX), x.r.Nodup ∧ (∀ (b : Nat), b ∈ x.r → b ∈ List.map (fun (x : (Int × RC) × Nat) => x.snd) es) ∧ emptyOk x.a x.n x.r.length x.cap → n3 = n3 ∧ mn = mn ∧ clock = clock ∧ (∀ (a : Int × RC) (n7 : Nat), (a, n7) ∈ es → ¬n7 ∈ x.r → n3 = n3 ∧ mn = mn ∧ clock = clock ∧ (∃ (a : Int × RC), List.Mem (a, n7) es) ∧ ∀ (a : Int × RC), (a, n7) ∈ es → n2 = n2 ∧ n2 = n2 ∧ n1 = n1 ∧ ∀ (n12 : Nat), n12 = n12 ∧ x.n = x.n ∧ 0 = 0 ∧ 0 = 0 ∧ x.r.length ≤ x.r.length ∧ x.cap = x.cap ∧ (x.r.length = 0 → x.cap = 0 ∨ x.a = some (Addr.mk x.n 0 none)) ∧ (x.r.length + 1 ≤ 9223372036854775807 ∧ (x.r.length + 1 + (x.r.length + 1) / 4 + 192) * 8 ≤ 281474976710656) ∧ ∀ (a' : Option Addr) (n14 n15 : Nat) (S' : List Nat), x.r.length + 1 ≤ n15 → emptyOk a' n14 (x.r.length + 1) n15 → n1 = n1 ∧ n2 = n2 ∧ ∃ (x' : KX), (x'.r.Nodup ∧ (∀ (b : Nat), b ∈ x'.r → b ∈ List.map (fun (x : (Int × RC) × Nat) => x.snd) es) ∧ emptyOk x'.a x'.n x'.r.length x'.cap) ∧ List.length es - x'.r.length < List.length es - x.r.length ∧ ((AV.ptr 4 n3 0).den = (AV.ptr 4 n3 0).den ∧ (AV.mp 1 mn).den = (AV.mp 1 mn).den ∧ (AV.yl 3 n2).den = (AV.yl 3 n2).den ∧ (AV.ptr 0 kn 0).den = (AV.ptr 0 kn 0).den ∧ True) ∧ LeH [Blk.mk kn (Cont.cells [AV.mp 1 mn] 73) false, Blk.mk mn (Cont.mape (Int × RC) kyR vlR mkR es clock) false, Blk.mk n1 (Cont.cells [AV.os 5 a' n14 0 0 1 (x.r.length + 1) n15] 28) true, Blk.mk n2 (Cont.loopc 0 LoopState.ready none [(6, AV.fn (Fn.func 57) [] [AV.ptr 0 kn 0]), (4, AV.v (Value.slice none 0 0)), (2, AV.ptr 2 n1 0), (0, AV.v (Value.slice none 0 0)), (1, AV.fn (Fn.func 57) [] [AV.ptr 0 kn 0])] 13 #[7].toList (rfA Try.f80 0) (rfB Try.f80 0)) true, Blk.mk n3 (Cont.itere 1 mn clock (n7 :: x.r)) true, Blk.mk n14 (Cont.lst 0 (x.r.length + 1) [Col.ints IntKind.i64 fun (i : Nat) => if i < x.r.length then atI (namesR es x.r) i else if i < x.r.length + 1 then match asI IntKind.i64 ((nth [i6 a.fst] ((0 + (i - x.r.length)) * 1 + nat_lit 0)).getD (AV.v undef)) with | some x => x | none => (0 : Int) else (0 : Int)] S' (some (n15, 3))) true, Blk.mk n12 (Cont.cells [i6 a.fst] 3) true] [Blk.mk kn (Cont.cells [AV.mp 1 mn] 73) false, Blk.mk mn (Cont.mape (Int × RC) kyR vlR mkR es clock) false, Blk.mk n1 (Cont.cells [AV.os 5 x'.a x'.n 0 0 1 x'.r.length x'.cap] 28) true, Blk.mk n2 (Cont.loopc 0 LoopState.ready none (putT (putT (putT [(0, AV.v (Value.slice none 0 0)), (1, AV.fn (Fn.func 57) [] [AV.ptr 0 kn 0])] (Oper.mk (some 2) (Op.box 28 (Operand.tmp 0)) 0 "iter.go:50" #[] none).dst (AV.ptr 2 n1 0)) (Oper.mk (some 4) (Op.assign (Operand.const (Value.slice none 0 0))) 28 "iter.go:50" #[] none).dst (AV.v (Value.slice none 0 0))) (Oper.mk (some 6) (Op.move (Operand.tmp 1)) 92 "iter.go:51" #[] none).dst (AV.fn (Fn.func 57) [] [AV.ptr 0 kn 0])) 13 #[7].toList (rfA Try.f80 0) (rfB Try.f80 0)) true, Blk.mk n3 (Cont.itere 1 mn clock x'.r) true, Blk.mk x'.n (Cont.lst 0 x'.r.length [Col.ints IntKind.i64 (atI (namesR es x'.r))] x'.S (some (x'.cap, 3))) true]) ∧ ((∀ (a : Int × RC) (b : Nat), (a, b) ∈ es → b ∈ x.r) → n2 = n2 ∧ n1 = n1 ∧ R (AV.os 5 x.a x.n 0 0 1 x.r.length x.cap) [Blk.mk kn (Cont.cells [AV.mp 1 mn] 73) false, Blk.mk mn (Cont.mape (Int × RC) kyR vlR mkR es clock) false, Blk.mk n1 (Cont.cells [AV.os 5 x.a x.n 0 0 1 x.r.length x.cap] 28) true, Blk.mk n2 (Cont.loopc 0 LoopState.exhausted none (putT (putT (putT [(0, AV.v (Value.slice none 0 0)), (1, AV.fn (Fn.func 57) [] [AV.ptr 0 kn 0])] (Oper.mk (some 2) (Op.box 28 (Operand.tmp 0)) 0 "iter.go:50" #[] none).dst (AV.ptr 2 n1 0)) (Oper.mk (some 4) (Op.assign (Operand.const (Value.slice none 0 0))) 28 "iter.go:50" #[] none).dst (AV.v (Value.slice none 0 0))) (Oper.mk (some 6) (Op.move (Operand.tmp 1)) 92 "iter.go:51" #[] none).dst (AV.fn (Fn.func 57) [] [AV.ptr 0 kn 0])) 13 #[7].toList (rfA Try.f80 0) (rfB Try.f80 0)) true, Blk.mk n3 (Cont.itere 1 mn clock x.r) true, Blk.mk x.n (Cont.lst 0 x.r.length [Col.ints IntKind.i64 (atI (namesR es x.r))] x.S (some (x.cap, 3))) true]))) : LC Try.prog 56 [.fn (.func 57) [] [.ptr 0 kn 0]] [⟨kn, .cells [.mp 1 mn] 73, false⟩, ⟨mn, .mape (Int × RC) kyR vlR mkR es clock, false⟩] R :=
  lc_of_exec (tbl := (tbG2 (collJ es))) tab_ok (tbG2_ok _) mixed noinv 2 _ Try.func56 rfl Try.ntmps56 (by decide) (by kernel_rfl) (Nat.le_of_ble_eq_true rfl) (@Eq.mpr (execN tab (tbG2 (collJ es)) noinv 2 Try.f56.ntmps [] none 0 (body Try.f56) (argsT [.fn (.func 57) [] [.ptr 0 kn 0]] 0) [⟨kn, .cells [.mp 1 mn] 73, false⟩, ⟨mn, .mape (Int × RC) kyR vlR mkR es clock, false⟩] (post Try.f56 tab (retK R))) _ (by kernel_rfl) h)
end Go.Proofs.Ytjnehpljhnlbfaa
namespace Go.Proofs.Ytjnehpljhnlbfaa
open Go Go.Eng Go.Sp
set_option linter.unusedVariables false
set_option linter.unusedSimpArgs false
theorem coll_lc (kn mn : Nat) (es : MR) (clock : Nat) (hk : (es.map (·.2)).Nodup) (hl : es.length ≤ 1048576) : LC Try.prog 56 [.fn (.func 57) [] [.ptr 0 kn 0]] [⟨kn, .cells [.mp 1 mn] 73, false⟩, ⟨mn, .mape (Int × RC) kyR vlR mkR es clock, false⟩]
    (fun z H' => ∃ (r : List Nat) (a : Option Addr) (n cap : Nat) (S : List Nat), z.den = (AV.os 0 a n 0 0 1 r.length cap).den ∧ emptyOk a n r.length cap ∧ (namesR es r).Perm (es.map fun e => e.1.1) ∧ LeH H' [⟨n, .lst 0 r.length [.ints .i64 (atI (namesR es r))] S (some (cap, 3)), true⟩]) :=
  coll_vc kn mn es clock (by
    intro n1 n2
    refine ⟨rfl, rfl, fun n3 => ⟨⟨⟨[], none, 0, 0, []⟩, ⟨List.nodup_nil, fun b hb => (by cases hb), fun _ => .inl rfl⟩, ⟨rfl, rfl, rfl, rfl, trivial⟩, ?_⟩, fun x hx => ?_⟩⟩
    · refine LeH.trans (H1 := [Blk.mk kn (Cont.cells [AV.mp 1 mn] 73) false, Blk.mk mn (Cont.mape (Int × RC) kyR vlR mkR es clock) false, Blk.mk n1 (Cont.cells [AV.v (Value.slice none 0 0)] 28) true, _, _, ⟨0, .lst 0 0 [.ints .i64 (atI [])] [] (some (0, 3)), true⟩]) (LeH.more rfl fun w => lst_nil (.inr ⟨_, rfl, rfl⟩)) (leAt [0, 1, 2, 3, 4, 5] (by decide) ⟨LeB.refl _, LeB.refl _, LeB.cells rfl (fun h => h), LeB.refl _, LeB.refl _, LeB.refl _, trivial⟩)
    · obtain ⟨h1, h2, h3⟩ := hx
      have hlen : x.r.length ≤ es.length := by
        have := List.Nodup.length_le_of_subset h1 (fun b hb => h2 b hb)
        simpa using this
      refine ⟨rfl, rfl, rfl, fun a b hab hb => ⟨rfl, rfl, rfl, ⟨a, hab⟩, fun a' hab' => ⟨rfl, rfl, rfl, fun n12 => ⟨rfl, rfl, rfl, rfl, Nat.le_refl _, rfl, h3, ⟨by omega, by omega⟩, fun a2 n14 n15 S' g1 g2 => ⟨rfl, rfl, ⟨b :: x.r, a2, n14, n15, S'⟩, ⟨List.nodup_cons.2 ⟨hb, h1⟩, fun c hc => ?_, g2⟩, ?_, ⟨rfl, rfl, rfl, rfl, trivial⟩, ?_⟩⟩⟩⟩, fun hall => ?_⟩
      · rcases List.mem_cons.1 hc with rfl | hc
        · exact List.mem_map.2 ⟨_, hab', rfl⟩
        · exact h2 c hc
      · have : (b :: x.r).length ≤ es.length := by
          have := List.Nodup.length_le_of_subset (l₂ := es.map (·.2)) (List.nodup_cons.2 ⟨hb, h1⟩) (fun c hc => by
            rcases List.mem_cons.1 hc with rfl | hc
            · exact List.mem_map.2 ⟨_, hab', rfl⟩
            · exact h2 c hc)
          simpa using this
        simp only [List.length_cons] at this ⊢
        omega
      · refine leAt [0, 1, 2, 3, 4, 5] (by decide) ⟨LeB.refl _, LeB.refl _, LeB.cells rfl (fun h => h), LeB.refl _, LeB.refl _, LeB.ints (Nat.le_refl _) (fun h => h) (.inr rfl) fun i hi => ?_, trivial⟩
        simp only [List.length_cons] at hi
        rw [namesR_cons, atI_cat, namesR_len]
        split
        · rfl
        · rename_i hn
          have e : i - x.r.length = 0 := by omega
          rw [e, nmB_in hk hab']
          rfl
      · refine ⟨rfl, rfl, x.r, x.a, x.n, x.cap, x.S, rfl, h3, names_perm hk h1 h2 hall, leAt [5] (by decide) ⟨LeB.refl _, trivial⟩⟩)
end Go.Proofs.Ytjnehpljhnlbfaa
namespace Go.Sp
open Go Go.Eng Go.Op Go.Proofs.Ytjnehpljhnlbfaa
structure bornO (es : MR) : Prop where
  h : (es.map (·.2)).Nodup
end Go.Sp
namespace Go.Eng
open Go Go.Sp Go.Op Go.Proofs.Ytjnehpljhnlbfaa
def collH : Handler := fun _ args H K =>
  match args with
  | [.fn (.func 57) [] [.ptr kx kn 0]] => ∃ (mx mn clock : Nat) (es : MR) (o1 o2 : Bool), nth H kx = some ⟨kn, .cells [.mp mx mn] 73, o1⟩ ∧ nth H mx = some ⟨mn, .mape (Int × RC) kyR vlR mkR es clock, o2⟩ ∧ [kx, mx].Nodup ∧ bornO es ∧ es.length ≤ 1048576 ∧
    ∀ (a : Option Addr) (n cap : Nat) (S : List Nat) (l : List Int), l.Perm (es.map fun e => e.1.1) → emptyOk a n l.length cap → K (.ret (.os H.length a n 0 0 1 l.length cap)) (H ++ [⟨n, .lst 0 l.length [.ints .i64 (atI l)] S (some (cap, 3)), true⟩])
  | _ => False
def sortedH : Handler := fun _ args H K =>
  match args with
  | [.fn (.func 57) [] [.ptr kx kn 0]] => ∃ (mx mn clock : Nat) (es : MR) (o1 o2 : Bool), nth H kx = some ⟨kn, .cells [.mp mx mn] 73, o1⟩ ∧ nth H mx = some ⟨mn, .mape (Int × RC) kyR vlR mkR es clock, o2⟩ ∧ [kx, mx].Nodup ∧ bornO es ∧ es.length ≤ 1048576 ∧
    ∀ (a : Option Addr) (n cap : Nat) (S : List Nat), K (.ret (.os H.length a n 0 0 1 es.length cap)) (H ++ [⟨n, .lst 0 es.length [.ints .i64 (atI (sortI (es.map fun e => e.1.1)))] S none, true⟩])
  | _ => False
end Go.Eng
namespace Go.Proofs.Ytjnehpljhnlbfaa
open Go Go.Eng Go.Sp Go.Op
set_option linter.unusedVariables false
set_option linter.unusedSimpArgs false
theorem collH_ok : HOk Try.prog 56 collH := HOk.of_make (enters_of (c := body Try.f56) Try.func56 rfl (by kernel_rfl)) fun rs args H K hk => by
  unfold collH at hk
  split at hk
  · rename_i kx kn
    obtain ⟨mx, mn, clock, es, o1, o2, hb1, hb2, hnd, ⟨hkey⟩, hl, hk⟩ := hk
    refine ⟨_, _, _, leAt (H := H) [kx, mx] hnd ?_, ?_, ?_, coll_lc kn mn es clock hkey hl, fun z H' hz => ?_⟩
    · simp only [pickH, hb1, hb2]
      exact ⟨LeB.cells rfl (fun h => (by cases h)), ⟨fun k hk => hk, fun h => (by cases h), fun w hw => hw⟩, trivial⟩
    · intro b hb
      simp at hb
      rcases hb with rfl | rfl <;> rfl
    · rfl
    · obtain ⟨r, a, n, cap, S, e1, e2, e3, e4⟩ := hz
      refine ⟨.os H.length a n 0 0 1 r.length cap, _, e1.symm, e4, ?_, ?_⟩
      · intro b hb
        cases List.mem_singleton.1 hb
        rfl
      · have := hk a n cap S (namesR es r) e3 (by rw [namesR_len]; exact e2)
        rw [namesR_len] at this
        exact this
  · exact hk.elim
def tbSo : Tbl := (56, .gen collH) :: (34, .gen sortIH) :: []
theorem tbSo_ok : TblOk Try.prog tbSo := ⟨collH_ok, sortIH_ok, trivial⟩
set_option maxRecDepth 100000 in
theorem so_vc (kn mn : Nat) (es : MR) (clock : Nat) {R : AV → HH → Prop} (h : (∃ (mx : Nat), ∃ (mn_1 : Nat), ∃ (clock_1 : Nat), ∃ (es_1 : MR), ∃ (o1 : Bool), ∃ (o2 : Bool), some (Blk.mk kn (Cont.cells [AV.mp (1 : Nat) mn] (73 : Nat)) false) = some (Blk.mk kn (Cont.cells [AV.mp mx mn_1] (73 : Nat)) o1) ∧ nth [Blk.mk kn (Cont.cells [AV.mp (1 : Nat) mn] (73 : Nat)) false, Blk.mk mn (Cont.mape (Int × RC) kyR vlR mkR es clock) false] mx = some (Blk.mk mn_1 (Cont.mape (Int × RC) kyR vlR mkR es_1 clock_1) o2) ∧ List.Pairwise (fun (x1 x2 : Nat) => x1 ≠ x2) [(0 : Nat), mx] ∧ bornO es_1 ∧ List.length es_1 ≤ (1048576 : Nat) ∧ ∀ (a : Option Addr) (n8 n9 : Nat) (S : List Nat) (l : List Int), l.Perm (List.map (fun (e : (Int × RC) × Nat) => e.fst.fst) es_1) → emptyOk a n8 l.length n9 → ∃ (S_1 : List Nat), ∃ (l_1 : List Int), some (Blk.mk n8 (Cont.lst (0 : Nat) l.length [Col.ints IntKind.i64 (atI l)] S (some (n9, (3 : TypeId)))) true) = some (Blk.mk n8 (Cont.lst (0 : Nat) l.length [Col.ints IntKind.i64 (atI l_1)] S_1 (some (n9, (3 : TypeId)))) true) ∧ l.length = l_1.length ∧ l_1.length ≤ (1048576 : Nat) ∧ R (AV.os (2 : Nat) a n8 (0 : Nat) (0 : Nat) (1 : Nat) l.length n9) [Blk.mk kn (Cont.cells [AV.mp (1 : Nat) mn] (73 : Nat)) false, Blk.mk mn (Cont.mape (Int × RC) kyR vlR mkR es clock) false, Blk.mk n8 (Cont.lst (0 : Nat) l.length [Col.ints IntKind.i64 (atI (l_1.mergeSort fun (x y : Int) => decide (x ≤ y)))] S_1 (some (n9, (3 : TypeId)))) true])) : LC Try.prog 39 [.fn (.func 57) [] [.ptr 0 kn 0]] [⟨kn, .cells [.mp 1 mn] 73, false⟩, ⟨mn, .mape (Int × RC) kyR vlR mkR es clock, false⟩] R :=
  lc_of_exec (tbl := tbSo) tab_ok tbSo_ok mixed noinv 2 _ Try.func39 rfl Try.ntmps39 (by decide) (by kernel_rfl) (Nat.le_of_ble_eq_true rfl) (@Eq.mpr (execN tab tbSo noinv 2 Try.f39.ntmps [] none 0 (body Try.f39) (argsT [.fn (.func 57) [] [.ptr 0 kn 0]] 0) [⟨kn, .cells [.mp 1 mn] 73, false⟩, ⟨mn, .mape (Int × RC) kyR vlR mkR es clock, false⟩] (post Try.f39 tab (retK R))) _ (by kernel_rfl) h)
theorem so_lc (kn mn : Nat) (es : MR) (clock : Nat) (hk : bornO es) (hl : es.length ≤ 1048576) : LC Try.prog 39 [.fn (.func 57) [] [.ptr 0 kn 0]] [⟨kn, .cells [.mp 1 mn] 73, false⟩, ⟨mn, .mape (Int × RC) kyR vlR mkR es clock, false⟩]
    (fun z H' => ∃ (a : Option Addr) (n cap : Nat) (S : List Nat), z.den = (AV.os 0 a n 0 0 1 es.length cap).den ∧ LeH H' [⟨n, .lst 0 es.length [.ints .i64 (atI (sortI (es.map fun e => e.1.1)))] S none, true⟩]) :=
  so_vc kn mn es clock (by
    refine ⟨1, mn, clock, es, false, false, rfl, rfl, by decide, hk, hl, fun a n cap S l hp he => ?_⟩
    have e1 : l.length = es.length := by rw [hp.length_eq, List.length_map]
    refine ⟨S, l, rfl, rfl, by omega, a, n, cap, S, by rw [e1]; rfl, ?_⟩
    have e2 := sortI_eq hp
    exact leAt [2] (by decide) ⟨LeB.ints (by omega) (fun h => h) (.inl rfl) fun i hi => by rw [← e2]; rfl, trivial⟩)
theorem sortedH_ok : HOk Try.prog 39 sortedH := HOk.of_make (enters_of (c := body Try.f39) Try.func39 rfl (by kernel_rfl)) fun rs args H K hk => by
  unfold sortedH at hk
  split at hk
  · rename_i kx kn
    obtain ⟨mx, mn, clock, es, o1, o2, hb1, hb2, hnd, hkey, hl, hk⟩ := hk
    refine ⟨_, _, _, leAt (H := H) [kx, mx] hnd ?_, ?_, ?_, so_lc kn mn es clock hkey hl, fun z H' hz => ?_⟩
    · simp only [pickH, hb1, hb2]
      exact ⟨LeB.cells rfl (fun h => (by cases h)), ⟨fun k hk => hk, fun h => (by cases h), fun w hw => hw⟩, trivial⟩
    · intro b hb
      simp at hb
      rcases hb with rfl | rfl <;> rfl
    · rfl
    · obtain ⟨a, n, cap, S, e1, e4⟩ := hz
      refine ⟨.os H.length a n 0 0 1 es.length cap, _, e1.symm, e4, ?_, hk a n cap S⟩
      intro b hb
      cases List.mem_singleton.1 hb
      rfl
  · exact hk.elim
end Go.Proofs.Ytjnehpljhnlbfaa
