import Derived.Test.YthnkafambegbcaaEngE
namespace Go.Eng
open Go
def cTake : Nat → Code → Code
  | 0, _ => .skip
  | n + 1, .seq a b => .seq a (cTake n b)
  | _ + 1, c => c
def cDrop : Nat → Code → Code
  | 0, c => c
  | n + 1, .seq _ b => cDrop n b
  | _ + 1, _ => .skip
def thenX (F : TT → HH → Prop) (K : Ex → TT → HH → Prop) (e : Ex) (T : TT) (H : HH) : Prop :=
  match e with
  | .norm => F T H
  | e => K e T H
theorem exec_split (tab : Tab) (tbl : Tbl) (inv : Inv) (rex : RS → REx) (nt : Nat) (rs : RS) (ro : Option (Nat × Nat)) (blk : Nat) : ∀ (n : Nat) (c : Code) (T : TT) (H : HH) (K : Ex → TT → HH → Prop),
    exec tab tbl inv rex nt rs ro blk (cTake n c) T H (thenX (fun T H => exec tab tbl inv rex nt rs ro blk (cDrop n c) T H K) K) = exec tab tbl inv rex nt rs ro blk c T H K
  | 0, c, T, H, K => rfl
  | n + 1, c, T, H, K => by
    have other : ∀ c : Code, cTake (n + 1) c = c → cDrop (n + 1) c = .skip → exec tab tbl inv rex nt rs ro blk (cTake (n + 1) c) T H (thenX (fun T H => exec tab tbl inv rex nt rs ro blk (cDrop (n + 1) c) T H K) K) = exec tab tbl inv rex nt rs ro blk c T H K := fun c h1 h2 => by
      rw [h1, h2]
      congr 1
      funext e T' H'
      cases e <;> rfl
    cases c with
    | seq a b =>
      simp only [cTake, cDrop, exec]
      cases hcut : cutAt inv a T H with
      | none =>
        simp only []
        congr 1
        funext e T' H'
        cases e with
        | norm => exact exec_split tab tbl inv rex nt rs ro blk n b T' H' K
        | _ => rfl
      | some l =>
        simp only []
        refine congr (congrArg And ?_) ?_
        · congr 1
          funext e T' H'
          cases e <;> rfl
        · congr 1
          funext s
          exact forall_congr fun x => forall_congr fun _ => exec_split tab tbl inv rex nt rs ro blk n b _ _ K
    | _ => exact other _ rfl rfl
theorem execN_split {tab : Tab} {tbl : Tbl} {inv : Inv} {d nt : Nat} {rs : RS} {ro : Option (Nat × Nat)} {blk : Nat} (n : Nat) {c : Code} {T : TT} {H : HH} {K : Ex → TT → HH → Prop}
    (h : execN tab tbl inv d nt rs ro blk (cTake n c) T H (thenX (fun T H => execN tab tbl inv d nt rs ro blk (cDrop n c) T H K) K)) : execN tab tbl inv d nt rs ro blk c T H K := by
  cases d with
  | zero => exact Eq.mp (exec_split tab tbl inv _ nt rs ro blk n c T H K) h
  | succ d => exact Eq.mp (exec_split tab tbl inv _ nt rs ro blk n c T H K) h
end Go.Eng
