/- Span: the law of heights: its condition. -/
import Derived.Test.YtjnehpljhnlbfaaT14
namespace Go.Sp
open Go.Eng Go.Proofs.Ytjnehpljhnlbfaa

def lgN (n : Nat) : Nat := if n = 0 then 0 else n.log2 + 1

/-- So many were put in. -/
structure tallI (s : SS) (n : Nat) (i : Nat) (k : Int) (N : Nat) : Prop where
  ok : s.ok
  hn : s.n = n
  hi : i ≤ N
  hk : 0 ≤ k ∧ k < 1000003
  ids : s.L.map (·.1) = (List.range i).map fun (j : Nat) => (j : Int)
/-- So many went. -/
structure goneI (s : SS) (n : Nat) (j : Nat) (N : Nat) : Prop where
  ok : s.ok
  hn : s.n = n
  hj : 2 * j ≤ N + 1
  len : s.L.length = N - j
  ids : ∀ i : Nat, 2 * j ≤ i → i < N → (i : Int) ∈ s.L.map (·.1)

end Go.Sp
namespace Go.Eng
open Go Go.Sp Go.Proofs.Ytjnehpljhnlbfaa

def talJ (N : Nat) : Nat → TT → HH → LI := fun b T H =>
  match H with
  | [⟨n, _, _⟩] =>
    bif Nat.beq b 0 then
      .inv (Nat × Int × SS × List Nat) (fun x => ((9, .v (.int .i64 (x.1 : Int))) :: (8, .v (.int .i64 x.2.1)) :: keepT [0, 1, 2, 7] T, [packB setC n x.2.2.1 x.2.2.2])) (fun x => tallI x.2.2.1 n x.1 x.2.1 N) (fun x => N - x.1)
    else bif Nat.beq b 2 then
      .inv (Nat × SS × List Nat) (fun x => ((10, .v (.int .i64 ((2 * x.1 : Nat) : Int))) :: keepT [0, 7] T, [packB setC n x.2.1 x.2.2])) (fun x => goneI x.2.1 n x.1 N) (fun x => N + 1 - 2 * x.1)
    else .unroll 0
  | _ => .unroll 0

end Go.Eng
namespace Go.Proofs.Ytjnehpljhnlbfaa
open Go Go.Eng Go.Sp
set_option linter.unusedVariables false
set_option linter.unusedSimpArgs false


set_option maxRecDepth 100000 in
theorem tal_vc (N : Nat) {R : AV → Prop} (h : ((∃ (x : Nat), (lgN x ≤ lgN N ∧ x ≤ N) ∧ ((AV.v (Value.int IntKind.i64 (↑N : Int))).den = (AV.v (Value.int IntKind.i64 (↑x : Int))).den ∧ (AV.v (Value.int IntKind.i64 (2 : Int))).den = (AV.v (Value.int IntKind.i64 ((2 : Int) + (2 : Int) * ((↑(lgN N) : Int) - (↑(lgN x) : Int))))).den ∧ True) ∧ LeH [] []) ∧ ∀ (n1 : Nat), lgN n1 ≤ lgN N ∧ n1 ≤ N → br (decide ((↑n1 : Int) > (0 : Int))) ((2 : Int) ≠ (0 : Int) ∧ ∃ (x' : Nat), (lgN x' ≤ lgN N ∧ x' ≤ N) ∧ x' < n1 ∧ ((AV.v (Value.int IntKind.i64 (IntKind.i64.wrap ((↑n1 : Int).tdiv (2 : Int))))).den = (AV.v (Value.int IntKind.i64 (↑x' : Int))).den ∧ (AV.v (Value.int IntKind.i64 (IntKind.i64.wrap ((2 : Int) + (2 : Int) * ((↑(lgN N) : Int) - (↑(lgN n1) : Int)) + (2 : Int))))).den = (AV.v (Value.int IntKind.i64 ((2 : Int) + (2 : Int) * ((↑(lgN N) : Int) - (↑(lgN x') : Int))))).den ∧ True) ∧ LeH [] []) (R (AV.v (Value.int IntKind.i64 ((2 : Int) + (2 : Int) * ((↑(lgN N) : Int) - (↑(lgN n1) : Int)))))))) : LC Try.prog 30 [.v (.int .i64 (N : Int))] [] (fun z_ _ => R z_) :=
  lc_of_exec (tbl := []) tab_ok trivial mixed (fun _ T H => .inv Nat (fun m => ((0, .v (.int .i64 (m : Int))) :: (3, .v (.int .i64 (2 + 2 * ((lgN N : Int) - (lgN m : Int))))) :: keepT [] T, H)) (fun m => lgN m ≤ lgN N ∧ m ≤ N) (fun m => m)) 2 _ Try.func30 rfl Try.ntmps30 (by decide) (by kernel_rfl) (Nat.le_of_ble_eq_true rfl) (@Eq.mpr (execN tab [] (fun _ T H => .inv Nat (fun m => ((0, .v (.int .i64 (m : Int))) :: (3, .v (.int .i64 (2 + 2 * ((lgN N : Int) - (lgN m : Int))))) :: keepT [] T, H)) (fun m => lgN m ≤ lgN N ∧ m ≤ N) (fun m => m)) 2 Try.f30.ntmps [] none 0 (body Try.f30) (argsT [.v (.int .i64 (N : Int))] 0) [] (post Try.f30 tab (retK (fun z_ _ => R z_)))) _ (by kernel_rfl) h)


end Go.Proofs.Ytjnehpljhnlbfaa

