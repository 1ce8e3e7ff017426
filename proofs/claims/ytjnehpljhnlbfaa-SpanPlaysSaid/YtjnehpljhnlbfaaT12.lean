import Derived.Test.YtjnehpljhnlbfaaT10
import Derived.Test.YtjnehpljhnlbfaaPA
import Derived.Test.YtjnehpljhnlbfaaY8
namespace Go.Sp
open Go.Eng Go.Proofs.Ytjnehpljhnlbfaa
structure SS where
  n : Nat
  mn : Nat
  es : List ((Int × RC) × Nat)
  clock : Nat
  t : PT
end Go.Sp
namespace Go.Eng
open Go Go.Sp Go.Proofs.Ytjnehpljhnlbfaa
abbrev rcV (q : RC) : AV := .agg [.v (.int .i64 q.t), .v (.int .i64 q.l), .v (.int .i64 q.b), .v (.int .i64 q.r)]
def kyR (a : Int × RC) : AV := .v (.int .i64 a.1)
def vlR (a : Int × RC) : AV := rcV a.2
def mkR (k v : AV) : Option (Int × RC) :=
  match k, v with
  | .v (.int .i64 id), .agg [.v (.int .i64 t), .v (.int .i64 l), .v (.int .i64 b), .v (.int .i64 r)] => some (id, ⟨t, l, b, r⟩)
  | _, _ => none
theorem mkR_eq {k v : AV} {a : Int × RC} (h : mkR k v = some a) : kyR a = k ∧ vlR a = v := by
  unfold mkR at h
  split at h
  · cases h; exact ⟨rfl, rfl⟩
  · cases h
abbrev stB (n : Nat) (p m : AV) : Blk := ⟨n, .cells [p, m] 75, true⟩
abbrev mpB (mn : Nat) (es : List ((Int × RC) × Nat)) (clock : Nat) : Blk := ⟨mn, .mape (Int × RC) kyR vlR mkR es clock, true⟩
end Go.Eng
namespace Go.Proofs.Ytjnehpljhnlbfaa
open Go Go.Eng Go.Sp
set_option linter.unusedVariables false
set_option linter.unusedSimpArgs false
def madI : Handler := inlH tab [] noinv 2 Try.f32 1
set_option maxRecDepth 100000 in
theorem mad_ok : HOk Try.prog 32 madI :=
  inl_ok (tbl := []) tab_ok trivial mixed noinv 2 _ 1 Try.func32 rfl Try.ntmps32 (by decide) (by kernel_rfl) (Nat.le_of_ble_eq_true rfl)
def tbSe : Tbl := (32, .gen madI) :: (23, .pure pcheckH) :: (42, .gen (withH 100000)) :: (43, .gen (delH 100000)) :: (50, .gen htH) :: []
theorem tbSe_ok : TblOk Try.prog tbSe := ⟨mad_ok, pcheck_ok, with_ok 100000, del_ok 100000, ht_ok, trivial⟩
set_option maxRecDepth 100000 in
theorem sNew_vc  {R : AV → HH → Prop} (h : (∀ (n1 n2 : Nat), R (AV.ptr (1 : Nat) n2 (0 : Nat)) [Blk.mk n1 (Cont.mapc [] (0 : Nat)) true, Blk.mk n2 (Cont.cells [AV.v (Value.pointer none), AV.mp (0 : Nat) n1] (75 : Nat)) true])) : LC Try.prog 24 [] [] R :=
  lc_of_exec (tbl := []) tab_ok trivial mixed noinv 2 _ Try.func24 rfl Try.ntmps24 (by decide) (by kernel_rfl) (Nat.le_of_ble_eq_true rfl) (@Eq.mpr (execN tab [] noinv 2 Try.f24.ntmps [] none 0 (body Try.f24) (argsT [] 0) [] (post Try.f24 tab (retK R))) _ (by kernel_rfl) h)
set_option maxRecDepth 100000 in
theorem sAdd_vc (s : SS) (S : List Nat) (id : Int) (q : RC) {R : AV → HH → Prop} (h : (∀ (n1 : Nat), s.n = s.n ∧ n1 = n1 ∧ br (ifB (okR q.t q.l q.b q.r) (0 : Int) (2 : Int) != (0 : Int)) (R (i6 (ifB (okR q.t q.l q.b q.r) (0 : Int) (2 : Int))) [Blk.mk s.n (Cont.cells [AV.pp 2 s.t.root, AV.mp 1 s.mn] 75) true, Blk.mk s.mn (Cont.mape (Int × RC) kyR vlR mkR s.es s.clock) true, Blk.mk 0 (Cont.res (PT × List Nat) (s.t, S) (fun (x : PT × List Nat) => x.snd) (packI treeC)) true, Blk.mk n1 (Cont.cells [i6 q.t, i6 q.l, i6 q.b, i6 q.r] 31) true]) (s.n = s.n ∧ s.mn = s.mn ∧ (∀ (a : Int × RC) (n3 : Nat), (a, n3) ∈ s.es → br (id == a.fst) (∀ (n5 : Nat), n5 = n5 ∧ R (i6 (9 : Int)) [Blk.mk s.n (Cont.cells [AV.pp 2 s.t.root, AV.mp 1 s.mn] 75) true, Blk.mk s.mn (Cont.mape (Int × RC) kyR vlR mkR s.es s.clock) true, Blk.mk 0 (Cont.res (PT × List Nat) (s.t, S) (fun (x : PT × List Nat) => x.snd) (packI treeC)) true, Blk.mk n1 (Cont.cells [i6 q.t, i6 q.l, i6 q.b, i6 q.r] 31) true, Blk.mk n5 (Cont.cells [i6 a.snd.t, i6 a.snd.l, i6 a.snd.b, i6 a.snd.r] 31) true]) True) ∧ ((∀ (a : Int × RC) (b : Nat), (a, b) ∈ s.es → (id == a.fst) = false) → ∀ (n3 : Nat), n3 = n3 ∧ s.n = s.n ∧ s.mn = s.mn ∧ br (decide ((↑s.es.length : Int) ≥ (8192 : Int))) (R (i6 (7 : Int)) [Blk.mk s.n (Cont.cells [AV.pp 2 s.t.root, AV.mp 1 s.mn] 75) true, Blk.mk s.mn (Cont.mape (Int × RC) kyR vlR mkR s.es s.clock) true, Blk.mk 0 (Cont.res (PT × List Nat) (s.t, S) (fun (x : PT × List Nat) => x.snd) (packI treeC)) true, Blk.mk n1 (Cont.cells [i6 q.t, i6 q.l, i6 q.b, i6 q.r] 31) true, Blk.mk n3 (Cont.cells [i6 (0 : Int), i6
 (0 : Int), i6 (0 : Int), i6 (0 : Int)] 31) true]) (s.n = s.n ∧ n1 = n1 ∧ s.mn = s.mn ∧ (∀ (a : Int × RC) (n5 : Nat), (a, n5) ∈ s.es → br (id == a.fst) (s.n = s.n ∧ n1 = n1 ∧ ∃ (t : PT), ∃ (S_1 : List Nat), some (Blk.mk 0 (Cont.res (PT × List Nat) (s.t, S) (fun (x : PT × List Nat) => x.snd) (packI treeC)) true) = some (Blk.mk 0 (Cont.res (PT × List Nat) (t, S_1) (fun (x : PT × List Nat) => x.snd) (packI treeC)) true) ∧ s.t.root = t.root ∧ t.good ∧ t.sz < 100000 ∧ 100000 ≤ 100000 ∧ (0 : Int) ≤ q.b ∧ ∀ (T : PT), (∃ (nn : Nat), T = PT.ins nn id (RC.mk q.t q.l q.b q.r) t) → ∀ (S : List Nat), s.n = s.n ∧ R (i6 (0 : Int)) [Blk.mk s.n (Cont.cells [AV.pp 5 T.root, AV.mp 1 s.mn] 75) true, Blk.mk s.mn (Cont.mape (Int × RC) kyR vlR mkR (setE s.es n5 (id, RC.mk q.t q.l q.b q.r)) s.clock) true, Blk.mk 0 (Cont.lst 0 0 [] [] none) false, Blk.mk n1 (Cont.cells [i6 q.t, i6 q.l, i6 q.b, i6 q.r] 31) true, Blk.mk n3 (Cont.cells [i6 (0 : Int), i6 (0 : Int), i6 (0 : Int), i6 (0 : Int)] 31) true, Blk.mk 0 (Cont.res (PT × List Nat) (T, S) (fun (x : PT × List Nat) => x.snd) (packI treeC)) true]) True) ∧ ((∀ (a : Int × RC) (b : Nat), (a, b) ∈ s.es → (id == a.fst) = false) → s.n = s.n ∧ n1 = n1 ∧ ∃ (t : PT), ∃ (S_1 : List Nat), some (Blk.mk 0 (Cont.res (PT × List Nat) (s.t, S) (fun (x : PT × List Nat) => x.snd) (packI treeC)) true) = some (Blk.mk 0 (Cont.res (PT × List Nat) (t, S_1) (fun (x : PT × List Nat) => x.snd) (packI treeC)) true) ∧ s.t.root = t.root ∧ t.good ∧ t.sz < 100000 ∧ 100000 ≤ 100000 ∧ (0
 : Int) ≤ q.b ∧ ∀ (T : PT), (∃ (nn : Nat), T = PT.ins nn id (RC.mk q.t q.l q.b q.r) t) → ∀ (S : List Nat), s.n = s.n ∧ R (i6 (0 : Int)) [Blk.mk s.n (Cont.cells [AV.pp 5 T.root, AV.mp 1 s.mn] 75) true, Blk.mk s.mn (Cont.mape (Int × RC) kyR vlR mkR (s.es ++ [((id, RC.mk q.t q.l q.b q.r), s.clock)]) (s.clock + 1)) true, Blk.mk 0 (Cont.lst 0 0 [] [] none) false, Blk.mk n1 (Cont.cells [i6 q.t, i6 q.l, i6 q.b, i6 q.r] 31) true, Blk.mk n3 (Cont.cells [i6 (0 : Int), i6 (0 : Int), i6 (0 : Int), i6 (0 : Int)] 31) true, Blk.mk 0 (Cont.res (PT × List Nat) (T, S) (fun (x : PT × List Nat) => x.snd) (packI treeC)) true])))))) : LC Try.prog 25 [.ptr 0 s.n 0, .v (.int .i64 id), rcV q] [stB s.n (.pp 2 s.t.root) (.mp 1 s.mn), mpB s.mn s.es s.clock, trB s.t S] R :=
  lc_of_exec (tbl := tbSe) tab_ok tbSe_ok mixed noinv 2 _ Try.func25 rfl Try.ntmps25 (by decide) (by kernel_rfl) (Nat.le_of_ble_eq_true rfl) (@Eq.mpr (execN tab tbSe noinv 2 Try.f25.ntmps [] none 0 (body Try.f25) (argsT [.ptr 0 s.n 0, .v (.int .i64 id), rcV q] 0) [stB s.n (.pp 2 s.t.root) (.mp 1 s.mn), mpB s.mn s.es s.clock, trB s.t S] (post Try.f25 tab (retK R))) _ (by kernel_rfl) h)
def sGeI : Handler := inlH tab tbSe noinv 2 Try.f22 2
set_option maxRecDepth 100000 in
theorem sGe_ok : HOk Try.prog 22 sGeI :=
  inl_ok (tbl := tbSe) tab_ok tbSe_ok mixed noinv 2 _ 2 Try.func22 rfl Try.ntmps22 (by decide) (by kernel_rfl) (Nat.le_of_ble_eq_true rfl)
def tbSg : Tbl := (22, .gen sGeI) :: tbSe
theorem tbSg_ok : TblOk Try.prog tbSg := ⟨sGe_ok, tbSe_ok⟩
set_option maxRecDepth 100000 in
theorem sDrop_vc (s : SS) (S : List Nat) (id : Int) {R : AV → HH → Prop} (h : (∀ (n1 : Nat), s.n = s.n ∧ s.n = s.n ∧ s.mn = s.mn ∧ (∀ (a : Int × RC) (n3 : Nat), (a, n3) ∈ s.es → br (id == a.fst) (∀ (n5 : Nat), n5 = n5 ∧ n5 = n5 ∧ n1 = n1 ∧ n1 = n1 ∧ ∀ (n6 : Nat), n6 = n6 ∧ s.n = s.n ∧ s.mn = s.mn ∧ (∀ (a_2 : Int × RC) (n8 : Nat), (a_2, n8) ∈ s.es → br (id == a_2.fst) (s.n = s.n ∧ n6 = n6 ∧ ∃ (t : PT), ∃ (S_1 : List Nat), some (Blk.mk 0 (Cont.res (PT × List Nat) (s.t, S) (fun (x : PT × List Nat) => x.snd) (packI treeC)) true) = some (Blk.mk 0 (Cont.res (PT × List Nat) (t, S_1) (fun (x : PT × List Nat) => x.snd) (packI treeC)) true) ∧ s.t.root = t.root ∧ t.hasO id (RC.mk a.snd.t a.snd.l a.snd.b a.snd.r) ∧ t.good ∧ t.sz < 100000 ∧ 100000 ≤ 100000 ∧ ∀ (T : PT), delO t T id (RC.mk a.snd.t a.snd.l a.snd.b a.snd.r) → ∀ (S : List Nat), s.n = s.n ∧ R (bT) [Blk.mk s.n (Cont.cells [AV.pp 6 T.root, AV.mp 1 s.mn] 75) true, Blk.mk s.mn (Cont.mape (Int × RC) kyR vlR mkR (dropE s.es n8) s.clock) true, Blk.mk 0 (Cont.lst 0 0 [] [] none) false, Blk.mk n1 (Cont.cells [i6 a.snd.t, i6 a.snd.l, i6 a.snd.b, i6 a.snd.r] 31) true, Blk.mk n5 (Cont.cells [i6 a.snd.t, i6 a.snd.l, i6 a.snd.b, i6 a.snd.r] 31) true, Blk.mk n6 (Cont.cells [i6 a.snd.t, i6 a.snd.l, i6 a.snd.b, i6 a.snd.r] 31) true, Blk.mk 0 (Cont.res (PT × List Nat) (T, S) (fun (x : PT × List Nat) => x.snd) (packI treeC)) true]) True) ∧ ((∀ (a : Int × RC) (b : Nat), (a, b) ∈ s.es → (id == a.fst) = false) → s.n = s.n ∧ n6 = n6 ∧ ∃ (t : PT), ∃ (S_1 : List Nat), some (Blk.mk 0 (Cont.res (PT × List Nat) (s.t, S) (fun (x : PT
 × List Nat) => x.snd) (packI treeC)) true) = some (Blk.mk 0 (Cont.res (PT × List Nat) (t, S_1) (fun (x : PT × List Nat) => x.snd) (packI treeC)) true) ∧ s.t.root = t.root ∧ t.hasO id (RC.mk a.snd.t a.snd.l a.snd.b a.snd.r) ∧ t.good ∧ t.sz < 100000 ∧ 100000 ≤ 100000 ∧ ∀ (T : PT), delO t T id (RC.mk a.snd.t a.snd.l a.snd.b a.snd.r) → ∀ (S : List Nat), s.n = s.n ∧ R (bT) [Blk.mk s.n (Cont.cells [AV.pp 6 T.root, AV.mp 1 s.mn] 75) true, Blk.mk s.mn (Cont.mape (Int × RC) kyR vlR mkR s.es s.clock) true, Blk.mk 0 (Cont.lst 0 0 [] [] none) false, Blk.mk n1 (Cont.cells [i6 a.snd.t, i6 a.snd.l, i6 a.snd.b, i6 a.snd.r] 31) true, Blk.mk n5 (Cont.cells [i6 a.snd.t, i6 a.snd.l, i6 a.snd.b, i6 a.snd.r] 31) true, Blk.mk n6 (Cont.cells [i6 a.snd.t, i6 a.snd.l, i6 a.snd.b, i6 a.snd.r] 31) true, Blk.mk 0 (Cont.res (PT × List Nat) (T, S) (fun (x : PT × List Nat) => x.snd) (packI treeC)) true])) True) ∧ ((∀ (a : Int × RC) (b : Nat), (a, b) ∈ s.es → (id == a.fst) = false) → ∀ (n3 : Nat), n3 = n3 ∧ n3 = n3 ∧ n1 = n1 ∧ n1 = n1 ∧ ∀ (n4 : Nat), n4 = n4 ∧ R (bF) [Blk.mk s.n (Cont.cells [AV.pp 2 s.t.root, AV.mp 1 s.mn] 75) true, Blk.mk s.mn (Cont.mape (Int × RC) kyR vlR mkR s.es s.clock) true, Blk.mk 0 (Cont.res (PT × List Nat) (s.t, S) (fun (x : PT × List Nat) => x.snd) (packI treeC)) true, Blk.mk n1 (Cont.cells [i6 (0 : Int), i6 (0 : Int), i6 (0 : Int), i6 (0 : Int)] 31) true, Blk.mk n3 (Cont.cells [i6 (0 : Int), i6 (0 : Int), i6 (0 : Int), i6 (0 : Int)] 31) true, Blk.mk n4 (Cont.cells [i6 (0 : Int), i6
 (0 : Int), i6 (0 : Int), i6 (0 : Int)] 31) true]))) : LC Try.prog 26 [.ptr 0 s.n 0, .v (.int .i64 id)] [stB s.n (.pp 2 s.t.root) (.mp 1 s.mn), mpB s.mn s.es s.clock, trB s.t S] R :=
  lc_of_exec (tbl := tbSg) tab_ok tbSg_ok mixed noinv 2 _ Try.func26 rfl Try.ntmps26 (by decide) (by kernel_rfl) (Nat.le_of_ble_eq_true rfl) (@Eq.mpr (execN tab tbSg noinv 2 Try.f26.ntmps [] none 0 (body Try.f26) (argsT [.ptr 0 s.n 0, .v (.int .i64 id)] 0) [stB s.n (.pp 2 s.t.root) (.mp 1 s.mn), mpB s.mn s.es s.clock, trB s.t S] (post Try.f26 tab (retK R))) _ (by kernel_rfl) h)
set_option maxRecDepth 100000 in
theorem sGet_vc (s : SS) (id : Int) {R : AV → Prop} (h : (∀ (n1 : Nat), s.n = s.n ∧ s.n = s.n ∧ s.mn = s.mn ∧ (∀ (a : Int × RC) (n3 : Nat), (a, n3) ∈ s.es → br (id == a.fst) (∀ (n5 : Nat), n5 = n5 ∧ n5 = n5 ∧ n1 = n1 ∧ n1 = n1 ∧ R (AV.tup [AV.agg [AV.v (Value.int IntKind.i64 a.snd.t), AV.v (Value.int IntKind.i64 a.snd.l), AV.v (Value.int IntKind.i64 a.snd.b), AV.v (Value.int IntKind.i64 a.snd.r)], AV.v (Value.bool true)])) True) ∧ ((∀ (a : Int × RC) (b : Nat), (a, b) ∈ s.es → (id == a.fst) = false) → ∀ (n3 : Nat), n3 = n3 ∧ n3 = n3 ∧ n1 = n1 ∧ n1 = n1 ∧ R (AV.tup [AV.agg [AV.v (Value.int IntKind.i64 (0 : Int)), AV.v (Value.int IntKind.i64 (0 : Int)), AV.v (Value.int IntKind.i64 (0 : Int)), AV.v (Value.int IntKind.i64 (0 : Int))], AV.v (Value.bool false)])))) : LC Try.prog 22 [.ptr 0 s.n 0, .v (.int .i64 id)] [⟨s.n, .cells [.v (.pointer s.t.root), .mp 1 s.mn] 75, false⟩, ⟨s.mn, .mape (Int × RC) kyR vlR mkR s.es s.clock, false⟩] (fun z_ _ => R z_) :=
  lc_of_exec (tbl := tbSe) tab_ok tbSe_ok mixed noinv 2 _ Try.func22 rfl Try.ntmps22 (by decide) (by kernel_rfl) (Nat.le_of_ble_eq_true rfl) (@Eq.mpr (execN tab tbSe noinv 2 Try.f22.ntmps [] none 0 (body Try.f22) (argsT [.ptr 0 s.n 0, .v (.int .i64 id)] 0) [⟨s.n, .cells [.v (.pointer s.t.root), .mp 1 s.mn] 75, false⟩, ⟨s.mn, .mape (Int × RC) kyR vlR mkR s.es s.clock, false⟩] (post Try.f22 tab (retK (fun z_ _ => R z_)))) _ (by kernel_rfl) h)
set_option maxRecDepth 100000 in
theorem sCount_vc (s : SS) {R : AV → Prop} (h : (s.n = s.n ∧ s.n = s.n ∧ s.mn = s.mn ∧ R (AV.v (Value.int IntKind.i64 (↑s.es.length : Int))))) : LC Try.prog 27 [.ptr 0 s.n 0] [⟨s.n, .cells [.v (.pointer s.t.root), .mp 1 s.mn] 75, false⟩, ⟨s.mn, .mape (Int × RC) kyR vlR mkR s.es s.clock, false⟩] (fun z_ _ => R z_) :=
  lc_of_exec (tbl := tbSe) tab_ok tbSe_ok mixed noinv 2 _ Try.func27 rfl Try.ntmps27 (by decide) (by kernel_rfl) (Nat.le_of_ble_eq_true rfl) (@Eq.mpr (execN tab tbSe noinv 2 Try.f27.ntmps [] none 0 (body Try.f27) (argsT [.ptr 0 s.n 0] 0) [⟨s.n, .cells [.v (.pointer s.t.root), .mp 1 s.mn] 75, false⟩, ⟨s.mn, .mape (Int × RC) kyR vlR mkR s.es s.clock, false⟩] (post Try.f27 tab (retK (fun z_ _ => R z_)))) _ (by kernel_rfl) h)
set_option maxRecDepth 100000 in
theorem sHeight_vc (s : SS) (S : List Nat) {R : AV → Prop} (h : (s.n = s.n ∧ s.n = s.n ∧ ∃ (t : PT), ∃ (S_1 : List Nat), ∃ (own : Bool), some (Blk.mk (0 : Nat) (Cont.res (PT × List Nat) (s.t, S) (fun (x : PT × List Nat) => x.snd) (packI treeC)) false) = some (Blk.mk (0 : Nat) (Cont.res (PT × List Nat) (t, S_1) (fun (x : PT × List Nat) => x.snd) (packI treeC)) own) ∧ s.t.root = t.root ∧ R (AV.v (Value.int IntKind.i64 t.ht)))) : LC Try.prog 29 [.ptr 0 s.n 0] [⟨s.n, .cells [.pp 2 s.t.root, .mp 1 s.mn] 75, false⟩, ⟨s.mn, .mape (Int × RC) kyR vlR mkR s.es s.clock, false⟩, ⟨0, packC treeC s.t S, false⟩] (fun z_ _ => R z_) :=
  lc_of_exec (tbl := tbSe) tab_ok tbSe_ok mixed noinv 2 _ Try.func29 rfl Try.ntmps29 (by decide) (by kernel_rfl) (Nat.le_of_ble_eq_true rfl) (@Eq.mpr (execN tab tbSe noinv 2 Try.f29.ntmps [] none 0 (body Try.f29) (argsT [.ptr 0 s.n 0] 0) [⟨s.n, .cells [.pp 2 s.t.root, .mp 1 s.mn] 75, false⟩, ⟨s.mn, .mape (Int × RC) kyR vlR mkR s.es s.clock, false⟩, ⟨0, packC treeC s.t S, false⟩] (post Try.f29 tab (retK (fun z_ _ => R z_)))) _ (by kernel_rfl) h)
end Go.Proofs.Ytjnehpljhnlbfaa
namespace Go.Sp
open Go.Eng Go.Proofs.Ytjnehpljhnlbfaa
def SS.L (s : SS) : List (Int × RC) := s.es.map (·.1)
def okQ (q : RC) : Bool := okR q.t q.l q.b q.r
structure SS.ok (s : SS) : Prop where
  wf : s.t.wf
  avl : s.t.avl
  srt : s.t.toL.Pairwise ah
  perm : s.t.toL.Perm s.L
  ids : (s.L.map (·.1)).Nodup
  brn : (s.es.map (·.2)).Nodup
  clk : ∀ e ∈ s.es, e.2 < s.clock
  right : ∀ x ∈ s.L, okQ x.2 = true
  few : s.L.length ≤ 8192
def addL (L : List (Int × RC)) (id : Int) (q : RC) : List (Int × RC) × Int :=
  if okQ q = false then (L, 2) else if id ∈ L.map (·.1) then (L, 9) else if L.length ≥ 8192 then (L, 7) else (L ++ [(id, q)], 0)
structure addO (s s' : SS) (id : Int) (q : RC) (code : Int) : Prop where
  ok : s'.ok
  n : s'.n = s.n
  is : (s'.L, code) = addL s.L id q
end Go.Sp
namespace Go.Eng
open Go Go.Sp Go.Proofs.Ytjnehpljhnlbfaa
theorem toL_len : ∀ t : PT, t.toL.length = t.sz
  | .leaf => rfl
  | .node n id q hi la l r => by
    show (l.toL ++ (id, q) :: r.toL).length = l.sz + r.sz + 1
    rw [List.length_append, List.length_cons, toL_len l, toL_len r]
    omega
theorem _root_.Go.Sp.SS.ok.sz {s : SS} (h : s.ok) : s.t.sz = s.L.length := by rw [← toL_len]; exact h.perm.length_eq
def setC (s : SS) (H0 : HH) : Prop := s.ok ∧ ∃ S, H0 = [stB s.n (.v (.pointer s.t.root)) (.v (.map (some s.mn))), mpB s.mn s.es s.clock, trB s.t S]
theorem setC_own (s : SS) (H0 : HH) (h : setC s H0) : allOwn H0 := by
  obtain ⟨_, S, rfl⟩ := h
  intro b hb
  simp at hb
  rcases hb with rfl | rfl | rfl <;> rfl
abbrev setB (s : SS) (S : List Nat) : Blk := packB setC s.n s S
def addH : Handler := fun _ args H K =>
  match args with
  | [.ptr i n 0, .v (.int .i64 id), .agg [.v (.int .i64 qt), .v (.int .i64 ql), .v (.int .i64 qb), .v (.int .i64 qr)]] =>
    ∃ (s : SS) (S : List Nat), nth H i = some (setB s S) ∧ n = s.n ∧ ∀ (s' : SS) (code : Int), addO s s' id ⟨qt, ql, qb, qr⟩ code → ∀ S', K (.ret (.v (.int .i64 code))) (H.set i (packB setC n s' S'))
  | _ => False
end Go.Eng
namespace Go.Proofs.Ytjnehpljhnlbfaa
open Go Go.Eng Go.Sp
set_option linter.unusedVariables false
set_option linter.unusedSimpArgs false
theorem SS.ok.no_id {s : SS} {id : Int} (h : ∀ (a : Int × RC) (b : Nat), (a, b) ∈ s.es → (id == a.fst) = false) : id ∉ s.L.map (·.1) := fun hm => by
  obtain ⟨x, hx, e⟩ := List.mem_map.1 hm
  obtain ⟨y, hy, rfl⟩ := List.mem_map.1 hx
  have := h y.1 y.2 hy
  rw [← e] at this
  simp at this
theorem _root_.Go.Sp.SS.ok.add {s : SS} (h : s.ok) {id : Int} {q : RC} (hq : okQ q = true) (hn : id ∉ s.L.map (·.1)) (hf : ¬ s.L.length ≥ 8192) (nn : Nat) : addO s { s with es := s.es ++ [((id, q), s.clock)], clock := s.clock + 1, t := s.t.ins nn id q } id q 0 := by
  have hL : ({ s with es := s.es ++ [((id, q), s.clock)], clock := s.clock + 1, t := s.t.ins nn id q } : SS).L = s.L ++ [(id, q)] := by simp [SS.L]
  have qb : 0 ≤ q.b := by
    have := okR_b (show okR q.t q.l q.b q.r = true from hq)
    omega
  have hx : ∀ x ∈ s.t.toL, ah (id, q) x ∨ ah x (id, q) := fun x hx => by
    have hxl := h.perm.mem_iff.1 hx
    have : x.1 ≠ id := fun e => hn (by rw [← e]; exact List.mem_map.2 ⟨x, hxl, rfl⟩)
    unfold ah
    simp only
    omega
  obtain ⟨i1, i2⟩ := ins_toL nn id q h.srt hx
  refine ⟨⟨(ins_both nn id q qb h.wf).1, (ins_avl nn id q qb h.wf h.avl).1, i1, ?_, ?_, ?_, ?_, ?_, ?_⟩, rfl, ?_⟩
  · rw [hL]
    exact (i2.trans (h.perm.cons _)).trans (List.perm_append_singleton _ _).symm
  · rw [hL, List.map_append, List.nodup_append]
    refine ⟨h.ids, by simp, fun a ha b hb => ?_⟩
    cases List.mem_singleton.1 hb
    exact fun e => hn (by have e : a = id := e; rw [← e]; exact ha)
  · show ((s.es ++ [((id, q), s.clock)]).map (·.2)).Nodup
    rw [List.map_append, List.nodup_append]
    refine ⟨h.brn, by simp, fun a ha b hb => ?_⟩
    cases List.mem_singleton.1 hb
    obtain ⟨e, he, rfl⟩ := List.mem_map.1 ha
    have := h.clk e he
    show e.2 ≠ s.clock
    omega
  · intro e he
    show e.2 < s.clock + 1
    rcases List.mem_append.1 (show e ∈ s.es ++ [((id, q), s.clock)] from he) with he | he
    · have := h.clk e he; omega
    · cases List.mem_singleton.1 he; show s.clock < s.clock + 1; omega
  · rw [hL]
    intro x hx
    rcases List.mem_append.1 hx with hx | hx
    · exact h.right x hx
    · cases List.mem_singleton.1 hx; exact hq
  · rw [hL, List.length_append]
    show s.L.length + 1 ≤ 8192
    omega
  · rw [hL]
    unfold addL
    rw [if_neg (by rw [hq]; decide), if_neg hn, if_neg hf]
theorem addS_ok : HOk Try.prog 25 addH := parcel_ok (C := setC) setC_own (enters_of (c := body Try.f25) Try.func25 rfl (by kernel_rfl)) fun rs args H K hk => by
  unfold addH at hk
  split at hk
  · rename_i i n id qt ql qb qr
    obtain ⟨s, S, h1, rfl, hk⟩ := hk
    refine ⟨i, s.n, s, [.ptr 0 s.n 0, .v (.int .i64 id), rcV ⟨qt, ql, qb, qr⟩], rfl, .inl ⟨S, h1, fun H0 hc => ?_⟩⟩
    obtain ⟨ok, S0, rfl⟩ := hc
    refine LC.pre (H' := [stB s.n (.pp 2 s.t.root) (.mp 1 s.mn), mpB s.mn s.es s.clock, trB s.t S0]) ?_ (LeH.of_bs ⟨LeB.cells rfl (fun h => h), LeB.refl _, LeB.refl _, trivial⟩) rfl
    have same : ∀ (code : Int), (s.L, code) = addL s.L id ⟨qt, ql, qb, qr⟩ → ∀ (Hx : HH), LeH Hx [stB s.n (.v (.pointer s.t.root)) (.v (.map (some s.mn))), mpB s.mn s.es s.clock, trB s.t S0] → ∃ (x' : SS) (N' Nx : HH) (z' : AV), LeH Hx (N' ++ Nx) ∧ setC x' N' ∧ z'.den = (AV.v (.int .i64 code)).den ∧ ∀ S', K (.ret z') (H.set i (packB setC s.n x' S') ++ Nx) := fun code hcode Hx hle =>
      ⟨s, _, [], .v (.int .i64 code), by rw [List.append_nil]; exact hle, ⟨ok, S0, rfl⟩, rfl, fun S' => by rw [List.append_nil]; exact hk s code ⟨ok, rfl, hcode⟩ S'⟩
    refine sAdd_vc s S0 id ⟨qt, ql, qb, qr⟩ ?_
    simp only [true_and, and_true]
    intro n1
    refine br_intro (fun hb => ?_) (fun hb => ?_)
    · have hq : okQ ⟨qt, ql, qb, qr⟩ = false := by
        cases h : okQ ⟨qt, ql, qb, qr⟩ with
        | false => rfl
        | true =>
          have h' : okR qt ql qb qr = true := h
          rw [h'] at hb
          cases hb
      have h' : okR qt ql qb qr = false := hq
      have e2 : ifB (okR qt ql qb qr) 0 2 = 2 := by rw [h']; rfl
      show ∃ (x' : SS) (N' Nx : HH) (z' : AV), _ ∧ _ ∧ z'.den = (AV.v (.int .i64 (ifB (okR qt ql qb qr) 0 2))).den ∧ _
      rw [e2]
      exact same 2 (by unfold addL; rw [if_pos hq]) _ (leAt [0, 1, 2] (by decide) ⟨LeB.cells rfl (fun h => h), LeB.refl _, LeB.refl _, trivial⟩)
    · have hq : okQ ⟨qt, ql, qb, qr⟩ = true := by
        cases h : okQ ⟨qt, ql, qb, qr⟩ with
        | true => rfl
        | false =>
          have h' : okR qt ql qb qr = false := h
          rw [h'] at hb
          cases hb
      have hqn : ¬ okQ ⟨qt, ql, qb, qr⟩ = false := by rw [hq]; decide
      have qb0 : 0 ≤ qb := by
        have := okR_b (show okR qt ql qb qr = true from hq)
        omega
      refine ⟨fun a n3 ha => br_intro (fun he n5 => ?_) (fun _ => trivial), fun hno n3 => ?_⟩
      · have he : id = a.1 := by simpa using he
        have hin : id ∈ s.L.map (·.1) := List.mem_map.2 ⟨a, List.mem_map.2 ⟨_, ha, rfl⟩, he.symm⟩
        exact same 9 (by unfold addL; rw [if_neg hqn, if_pos hin]) _ (leAt [0, 1, 2] (by decide) ⟨LeB.cells rfl (fun h => h), LeB.refl _, LeB.refl _, trivial⟩)
      · have hni := SS.ok.no_id hno
        have hlen : s.L.length = s.es.length := by simp [SS.L]
        refine br_intro (fun hf => ?_) (fun hf => ?_)
        · have hf : s.L.length ≥ 8192 := by have := of_decide_eq_true hf; omega
          exact same 7 (by unfold addL; rw [if_neg hqn, if_neg hni, if_pos hf]) _ (leAt [0, 1, 2] (by decide) ⟨LeB.cells rfl (fun h => h), LeB.refl _, LeB.refl _, trivial⟩)
        · have hf : ¬ s.L.length ≥ 8192 := by have := of_decide_eq_false hf; omega
          have hsz := ok.sz
          refine ⟨fun a n5 ha => br_intro (fun he => ?_) (fun _ => trivial), fun _ => ?_⟩
          · have := hno a n5 ha
            rw [he] at this
            cases this
          · refine ⟨s.t, S0, rfl, rfl, ⟨ok.wf⟩, by omega, Nat.le_refl _, qb0, fun T hT S1 => ?_⟩
            obtain ⟨nn, rfl⟩ := hT
            have ao := ok.add hq hni hf nn
            refine ⟨_, [stB s.n (.v (.pointer (s.t.ins nn id ⟨qt, ql, qb, qr⟩).root)) (.v (.map (some s.mn))), mpB s.mn (s.es ++ [((id, ⟨qt, ql, qb, qr⟩), s.clock)]) (s.clock + 1), trB (s.t.ins nn id ⟨qt, ql, qb, qr⟩) S1], [], .v (.int .i64 0), ?_, ⟨ao.ok, S1, rfl⟩, rfl, fun S' => by rw [List.append_nil]; exact hk _ 0 ao S'⟩
            rw [List.append_nil]
            exact leAt [0, 1, 5] (by decide) ⟨LeB.cells rfl (fun h => h), LeB.refl _, LeB.refl _, trivial⟩
  · exact hk.elim
end Go.Proofs.Ytjnehpljhnlbfaa
namespace Go.Sp
open Go.Eng Go.Proofs.Ytjnehpljhnlbfaa
def getL (L : List (Int × RC)) (id : Int) : Option RC := (L.find? fun x => x.1 == id).map (·.2)
def dropL (L : List (Int × RC)) (id : Int) : List (Int × RC) × Bool := (L.filter fun x => !(x.1 == id), L.any fun x => x.1 == id)
structure dropO (s s' : SS) (id : Int) (b : Bool) : Prop where
  ok : s'.ok
  n : s'.n = s.n
  is : (s'.L, b) = dropL s.L id
structure newO (s : SS) : Prop where
  ok : s.ok
  is : s.L = []
end Go.Sp
namespace Go.Eng
open Go Go.Sp Go.Proofs.Ytjnehpljhnlbfaa
theorem nodup_inj {α β : Type} {f : α → β} : ∀ {l : List α}, (l.map f).Nodup → ∀ {a b : α}, a ∈ l → b ∈ l → f a = f b → a = b
  | [], _, _, _, h, _, _ => by cases h
  | x :: l, hn, a, b, ha, hb, e => by
    rw [List.map_cons, List.nodup_cons] at hn
    rcases List.mem_cons.1 ha with h1 | h1 <;> rcases List.mem_cons.1 hb with h2 | h2
    · rw [h1, h2]
    · rw [h1] at e; exact absurd (List.mem_map.2 ⟨b, h2, e.symm⟩) hn.1
    · rw [h2] at e; exact absurd (List.mem_map.2 ⟨a, h1, e⟩) hn.1
    · exact nodup_inj hn.2 h1 h2 e
def newH : Handler := fun _ args H K =>
  match args with
  | [] => ∀ (s : SS), newO s → ∀ S, K (.ret (.ptr H.length s.n 0)) (H ++ [packB setC s.n s S])
  | _ => False
def getH : Handler := fun _ args H K =>
  match args with
  | [.ptr i n 0, .v (.int .i64 id)] => ∃ (s : SS) (S : List Nat), nth H i = some (setB s S) ∧ n = s.n ∧
      (∀ q, getL s.L id = some q → K (.ret (.tup [rcV q, .v (.bool true)])) H) ∧ (getL s.L id = none → K (.ret (.tup [rcV ⟨0, 0, 0, 0⟩, .v (.bool false)])) H)
  | _ => False
def countH : Handler := fun _ args H K =>
  match args with
  | [.ptr i n 0] => ∃ (s : SS) (S : List Nat), nth H i = some (setB s S) ∧ n = s.n ∧ K (.ret (.v (.int .i64 (s.L.length : Int)))) H
  | _ => False
def heightH : Handler := fun _ args H K =>
  match args with
  | [.ptr i n 0] => ∃ (s : SS) (S : List Nat), nth H i = some (setB s S) ∧ n = s.n ∧ K (.ret (.v (.int .i64 s.t.ht))) H
  | _ => False
def dropH : Handler := fun _ args H K =>
  match args with
  | [.ptr i n 0, .v (.int .i64 id)] => ∃ (s : SS) (S : List Nat), nth H i = some (setB s S) ∧ n = s.n ∧ ∀ (s' : SS) (b : Bool), dropO s s' id b → ∀ S', K (.ret (.v (.bool b))) (H.set i (packB setC n s' S'))
  | _ => False
theorem set_look {s : SS} {S : List Nat} {w : World} (h : (setB s S).c.holds w (setB s S).num) : s.ok ∧ ∃ S0, HoldsH [stB s.n (.v (.pointer s.t.root)) (.v (.map (some s.mn))), mpB s.mn s.es s.clock, trB s.t S0] w := by
  obtain ⟨H0, g1, g2, g3, g4⟩ := pack_open h
  obtain ⟨ok, S0, rfl⟩ := g1
  exact ⟨ok, S0, g4⟩
theorem find_some {es : List ((Int × RC) × Nat)} {a : Int × RC} {n : Nat} (hn : ((es.map (·.1)).map (·.1)).Nodup) (h : (a, n) ∈ es) : getL (es.map (·.1)) a.1 = some a.2 := by
  unfold getL
  cases hf : (es.map (·.1)).find? fun x => x.1 == a.1 with
  | none =>
    have := List.find?_eq_none.1 hf a (List.mem_map.2 ⟨_, h, rfl⟩)
    simp at this
  | some x =>
    have h1 := List.mem_of_find?_eq_some hf
    have h2 : x.1 = a.1 := by simpa using List.find?_some hf
    have := nodup_inj hn h1 (List.mem_map.2 ⟨_, h, rfl⟩) h2
    rw [this]; rfl
theorem find_none {es : List ((Int × RC) × Nat)} {id : Int} (h : ∀ (a : Int × RC) (b : Nat), (a, b) ∈ es → (id == a.fst) = false) : getL (es.map (·.1)) id = none := by
  unfold getL
  rw [List.find?_eq_none.2]
  · rfl
  · intro x hx
    obtain ⟨e, he, rfl⟩ := List.mem_map.1 hx
    have := h e.1 e.2 he
    simp only [beq_eq_false_iff_ne, ne_eq] at this
    simp only [beq_iff_eq]
    exact fun h => this h.symm
end Go.Eng
namespace Go.Proofs.Ytjnehpljhnlbfaa
open Go Go.Eng Go.Sp
set_option linter.unusedVariables false
set_option linter.unusedSimpArgs false
theorem get_ok : HOk Try.prog 22 getH := HOk.of_look (enters_of (c := body Try.f22) Try.func22 rfl (by kernel_rfl)) fun rs args H K hk => by
  unfold getH at hk
  split at hk
  · rename_i i n id
    obtain ⟨s, S, h1, rfl, hk1, hk2⟩ := hk
    rw [nth_eq] at h1
    have look : ∀ w, HoldsH H w → s.ok ∧ HoldsH [⟨s.n, .cells [.v (.pointer s.t.root), .mp 1 s.mn] 75, false⟩, ⟨s.mn, .mape (Int × RC) kyR vlR mkR s.es s.clock, false⟩] w := fun w hw => by
      obtain ⟨ok, S0, h0⟩ := set_look (by have g := hw.all i _ h1; exact g)
      have l : LeH [stB s.n (.v (.pointer s.t.root)) (.v (.map (some s.mn))), mpB s.mn s.es s.clock, trB s.t S0] [⟨s.n, .cells [.v (.pointer s.t.root), .mp 1 s.mn] 75, false⟩, ⟨s.mn, .mape (Int × RC) kyR vlR mkR s.es s.clock, false⟩] := leAt [0, 1] (by decide) ⟨LeB.cells rfl (fun h => by cases h), ⟨fun k hk => hk, fun h => (by cases h), fun w h => h⟩, trivial⟩
      exact ⟨ok, l.holds w h0⟩
    cases hg : getL s.L id with
    | some q =>
      refine ⟨_, hk1 q hg, fun w hw => ?_⟩
      obtain ⟨ok, h0⟩ := look w hw
      refine ⟨_, [.ptr 0 s.n 0, .v (.int .i64 id)], h0, rfl, rfl, sGet_vc s id ?_⟩
      simp only [true_and, and_true]
      intro n1
      refine ⟨fun a n3 ha => br_intro (fun he n5 => ?_) (fun _ => trivial), fun hno n3 => ?_⟩
      · have he : id = a.1 := by simpa using he
        have := find_some ok.ids ha
        rw [← he] at this
        have e : some q = some a.2 := hg.symm.trans this
        cases e
        rfl
      · have := find_none hno
        rw [show getL (s.es.map (·.1)) id = some q from hg] at this
        cases this
    | none =>
      refine ⟨_, hk2 hg, fun w hw => ?_⟩
      obtain ⟨ok, h0⟩ := look w hw
      refine ⟨_, [.ptr 0 s.n 0, .v (.int .i64 id)], h0, rfl, rfl, sGet_vc s id ?_⟩
      simp only [true_and, and_true]
      intro n1
      refine ⟨fun a n3 ha => br_intro (fun he n5 => ?_) (fun _ => trivial), fun hno n3 => trivial⟩
      have he : id = a.1 := by simpa using he
      have := find_some ok.ids ha
      rw [← he] at this
      rw [show getL (s.es.map (·.1)) id = none from hg] at this
      cases this
  · exact hk.elim
theorem count_ok : HOk Try.prog 27 countH := HOk.of_look (enters_of (c := body Try.f27) Try.func27 rfl (by kernel_rfl)) fun rs args H K hk => by
  unfold countH at hk
  split at hk
  · rename_i i n
    obtain ⟨s, S, h1, rfl, hk⟩ := hk
    rw [nth_eq] at h1
    refine ⟨_, hk, fun w hw => ?_⟩
    obtain ⟨ok, S0, h0⟩ := set_look (by have g := hw.all i _ h1; exact g)
    have l : LeH [stB s.n (.v (.pointer s.t.root)) (.v (.map (some s.mn))), mpB s.mn s.es s.clock, trB s.t S0] [⟨s.n, .cells [.v (.pointer s.t.root), .mp 1 s.mn] 75, false⟩, ⟨s.mn, .mape (Int × RC) kyR vlR mkR s.es s.clock, false⟩] := leAt [0, 1] (by decide) ⟨LeB.cells rfl (fun h => by cases h), ⟨fun k hk => hk, fun h => (by cases h), fun w h => h⟩, trivial⟩
    refine ⟨_, [.ptr 0 s.n 0], l.holds w h0, rfl, rfl, sCount_vc s ?_⟩
    simp only [true_and, and_true, SS.L, List.length_map]
  · exact hk.elim
theorem height_ok : HOk Try.prog 29 heightH := HOk.of_look (enters_of (c := body Try.f29) Try.func29 rfl (by kernel_rfl)) fun rs args H K hk => by
  unfold heightH at hk
  split at hk
  · rename_i i n
    obtain ⟨s, S, h1, rfl, hk⟩ := hk
    rw [nth_eq] at h1
    refine ⟨_, hk, fun w hw => ?_⟩
    obtain ⟨ok, S0, h0⟩ := set_look (by have g := hw.all i _ h1; exact g)
    have l : LeH [stB s.n (.v (.pointer s.t.root)) (.v (.map (some s.mn))), mpB s.mn s.es s.clock, trB s.t S0] [⟨s.n, .cells [.pp 2 s.t.root, .mp 1 s.mn] 75, false⟩, ⟨s.mn, .mape (Int × RC) kyR vlR mkR s.es s.clock, false⟩, ⟨0, packC treeC s.t S0, false⟩] := leAt [0, 1, 2] (by decide) ⟨LeB.cells rfl (fun h => by cases h), ⟨fun k hk => hk, fun h => (by cases h), fun w h => h⟩, ⟨fun k hk => hk, fun h => (by cases h), fun w h => h⟩, trivial⟩
    refine ⟨_, [.ptr 0 s.n 0], l.holds w h0, rfl, rfl, sHeight_vc s S0 ?_⟩
    simp only [true_and, and_true]
    exact ⟨s.t, S0, false, rfl, rfl, rfl⟩
  · exact hk.elim
theorem _root_.Go.Sp.SS.ok.drop {s : SS} (h : s.ok) {a : Int × RC} {q : Nat} (ha : (a, q) ∈ s.es) {T : PT} (hT : T = s.t.del a.1 a.2) : dropO s { s with es := dropE s.es q, t := T } a.1 true := by
  subst hT
  have hL : (dropE s.es q).map (·.1) = s.L.filter fun x => !(x.1 == a.1) := by
    unfold dropE SS.L
    rw [List.filter_map]
    congr 1
    refine List.filter_congr fun e he => ?_
    have h1 : Nat.beq e.2 q = true → (e.1.1 == a.1) = true := fun hb => by
      have := nodup_inj h.brn he ha (Nat.eq_of_beq_eq_true hb)
      rw [this]; simp
    have h2 : (e.1.1 == a.1) = true → Nat.beq e.2 q = true := fun hb => by
      have e1 : e.1.1 = a.1 := by simpa using hb
      have i1 : e.1 ∈ s.L := List.mem_map.2 ⟨e, he, rfl⟩
      have i2 : a ∈ s.L := List.mem_map.2 ⟨_, ha, rfl⟩
      have e2 : e.1 = a := nodup_inj h.ids i1 i2 e1
      have e3 : e = (a, q) := by
        have hids : (s.es.map fun e => e.1.1).Nodup := by have := h.ids; unfold SS.L at this; rw [List.map_map] at this; exact this
        exact nodup_inj hids he ha e1
      rw [e3]; simp
    cases hb : Nat.beq e.2 q <;> cases hc : (e.1.1 == a.1) <;> simp_all
  have hin : a ∈ s.t.toL := h.perm.mem_iff.2 (List.mem_map.2 ⟨_, ha, rfl⟩)
  obtain ⟨d1, d2, d3⟩ := del_toL a.1 a.2 h.srt hin
  have hsub : ({ s with es := dropE s.es q, t := s.t.del a.1 a.2 } : SS).L = s.L.filter fun x => !(x.1 == a.1) := hL
  have hp : s.L.Perm (a :: s.L.filter fun x => !(x.1 == a.1)) := by
    have main : ∀ (l : List (Int × RC)), (l.map (·.1)).Nodup → a ∈ l → l.Perm (a :: l.filter fun x => !(x.1 == a.1)) := by
      intro l
      induction l with
      | nil => intro _ h; cases h
      | cons x l ih =>
        intro hn hm
        rw [List.map_cons, List.nodup_cons] at hn
        rcases List.mem_cons.1 hm with rfl | hm
        · have e : (a :: l).filter (fun x => !(x.1 == a.1)) = l := by
            rw [List.filter_cons_of_neg (by simp)]
            exact List.filter_eq_self.2 fun y hy => by
              have : y.1 ≠ a.1 := fun e => hn.1 (List.mem_map.2 ⟨y, hy, e⟩)
              simpa using this
          rw [e]
        · have hne : x.1 ≠ a.1 := fun e => hn.1 (List.mem_map.2 ⟨a, hm, e.symm⟩)
          rw [List.filter_cons_of_pos (by simpa using hne)]
          exact ((ih hn.2 hm).cons x).trans (List.Perm.swap ..)
    exact main s.L h.ids (List.mem_map.2 ⟨_, ha, rfl⟩)
  refine ⟨⟨(del_both a.1 a.2 h.wf d1).1, (del_avl a.1 a.2 h.wf h.avl d1).1, h.srt.sublist d3, ?_, ?_, ?_, ?_, ?_, ?_⟩, rfl, ?_⟩
  · rw [hsub]
    exact List.Perm.cons_inv (a := a) (d2.symm.trans (h.perm.trans hp))
  · rw [hsub]
    exact h.ids.sublist (List.filter_sublist.map _)
  · exact h.brn.sublist ((show (dropE s.es q).Sublist s.es from List.filter_sublist).map _)
  · exact fun e he => h.clk e ((show (dropE s.es q).Sublist s.es from List.filter_sublist).subset he)
  · rw [hsub]
    exact fun x hx => h.right x (List.mem_filter.1 hx).1
  · rw [hsub]
    exact Nat.le_trans (List.length_filter_le _ _) h.few
  · rw [hsub]
    unfold dropL
    congr 1
    symm
    rw [List.any_eq_true]
    exact ⟨a, List.mem_map.2 ⟨_, ha, rfl⟩, by simp⟩
theorem dropS_ok : HOk Try.prog 26 dropH := parcel_ok (C := setC) setC_own (enters_of (c := body Try.f26) Try.func26 rfl (by kernel_rfl)) fun rs args H K hk => by
  unfold dropH at hk
  split at hk
  · rename_i i n id
    obtain ⟨s, S, h1, rfl, hk⟩ := hk
    refine ⟨i, s.n, s, [.ptr 0 s.n 0, .v (.int .i64 id)], rfl, .inl ⟨S, h1, fun H0 hc => ?_⟩⟩
    obtain ⟨ok, S0, rfl⟩ := hc
    refine LC.pre (H' := [stB s.n (.pp 2 s.t.root) (.mp 1 s.mn), mpB s.mn s.es s.clock, trB s.t S0]) ?_ (LeH.of_bs ⟨LeB.cells rfl (fun h => h), LeB.refl _, LeB.refl _, trivial⟩) rfl
    refine sDrop_vc s S0 id ?_
    simp only [true_and, and_true]
    intro n1
    have hsz := ok.sz
    have hfew := ok.few
    refine ⟨fun a n3 ha => br_intro (fun he n5 n6 => ?_) (fun _ => trivial), fun hno n3 n4 => ?_⟩
    · have he : id = a.1 := by simpa using he
      have hin : a ∈ s.t.toL := ok.perm.mem_iff.2 (List.mem_map.2 ⟨_, ha, rfl⟩)
      obtain ⟨d1, d2, d3⟩ := del_toL a.1 a.2 ok.srt hin
      refine ⟨fun b n8 hb => br_intro (fun he2 => ?_) (fun _ => trivial), fun hno => ?_⟩
      · have he2 : id = b.1 := by simpa using he2
        have hab : b = a := nodup_inj ok.ids (List.mem_map.2 ⟨_, hb, rfl⟩) (List.mem_map.2 ⟨_, ha, rfl⟩) (he2.symm.trans he)
        subst hab
        refine ⟨s.t, S0, rfl, rfl, ⟨by rw [he]; exact d1⟩, ⟨ok.wf⟩, by omega, Nat.le_refl _, fun T hT S1 => ?_⟩
        have ao := ok.drop hb (T := T) (by rw [hT.h, he])
        rw [← he] at ao
        refine ⟨_, [stB s.n (.v (.pointer T.root)) (.v (.map (some s.mn))), mpB s.mn (dropE s.es n8) s.clock, trB T S1], [], .v (.bool true), ?_, ⟨ao.ok, S1, rfl⟩, rfl, fun S' => by rw [List.append_nil]; exact hk _ true ao S'⟩
        rw [List.append_nil]
        exact leAt [0, 1, 6] (by decide) ⟨LeB.cells rfl (fun h => h), LeB.refl _, LeB.refl _, trivial⟩
      · have := hno a n3 ha
        rw [he] at this
        simp at this
    · have hdl : (s.L, false) = dropL s.L id := by
        unfold dropL
        have h1 : ∀ x ∈ s.L, (x.1 == id) = false := fun x hx => by
          obtain ⟨e, he, rfl⟩ := List.mem_map.1 hx
          have := hno e.1 e.2 he
          simp only [beq_eq_false_iff_ne, ne_eq] at this ⊢
          exact fun h => this h.symm
        rw [List.filter_eq_self.2 fun x hx => by rw [h1 x hx]; rfl]
        congr 1
        symm
        rw [List.any_eq_false]
        exact fun x hx => by rw [h1 x hx]; decide
      refine ⟨s, [stB s.n (.v (.pointer s.t.root)) (.v (.map (some s.mn))), mpB s.mn s.es s.clock, trB s.t S0], [], .v (.bool false), ?_, ⟨ok, S0, rfl⟩, rfl, fun S' => by rw [List.append_nil]; exact hk s false ⟨ok, rfl, hdl⟩ S'⟩
      rw [List.append_nil]
      exact leAt [0, 1, 2] (by decide) ⟨LeB.cells rfl (fun h => h), LeB.refl _, LeB.refl _, trivial⟩
  · exact hk.elim
theorem newS_ok : HOk Try.prog 24 newH := HOk.of_take (enters_of (c := body Try.f24) Try.func24 rfl (by kernel_rfl)) fun rs args H K hk => by
  unfold newH at hk
  split at hk
  · refine ⟨[], [], [], fun z H' => ∃ n1 n2, z = .ptr 1 n2 0 ∧ H' = [Blk.mk n1 (Cont.mapc [] 0) true, Blk.mk n2 (Cont.cells [.v (.pointer none), .mp 0 n1] 75) true], List.nodup_nil, trivial, rfl, sNew_vc fun n1 n2 => ⟨n1, n2, rfl, rfl⟩, fun z H' hz => ?_⟩
    obtain ⟨n1, n2, rfl, rfl⟩ := hz
    have ok : (⟨n2, n1, [], 0, .leaf⟩ : SS).ok := ⟨trivial, trivial, List.Pairwise.nil, List.Perm.refl _, List.nodup_nil, List.nodup_nil, fun e he => (by cases he), fun x hx => (by cases hx), Nat.zero_le _⟩
    have l1 : LeH [Blk.mk n1 (Cont.mapc [] 0) true, Blk.mk n2 (Cont.cells [.v (.pointer none), .mp 0 n1] 75) true] [stB n2 (.v (.pointer none)) (.v (.map (some n1))), mpB n1 [] 0] := leAt [1, 0] (by decide) ⟨LeB.cells rfl (fun h => h), ⟨fun _ h => h, id, fun w h => ⟨h, List.nodup_nil, fun e (he : e ∈ []) => (by cases he), fun k v a h => mkR_eq h⟩⟩, trivial⟩
    have l2 := l1.trans (LeH.more (H := [stB n2 (.v (.pointer none)) (.v (.map (some n1))), mpB n1 [] 0]) (b := trB .leaf []) rfl leaf_nil)
    have hc : setC ⟨n2, n1, [], 0, .leaf⟩ [stB n2 (.v (.pointer none)) (.v (.map (some n1))), mpB n1 [] 0, trB .leaf []] := ⟨ok, [], rfl⟩
    refine ⟨.ptr H.length n2 0, [setB ⟨n2, n1, [], 0, .leaf⟩ [n2, n1]], rfl, ⟨fun w hw => (To.pack (Hr := []) n2 hc (setC_own _ _ hc) (by rw [List.append_nil]; exact l2.holds w hw)).hp, fun i b hi k hk => ?_⟩, hk ⟨n2, n1, [], 0, .leaf⟩ ⟨ok, rfl⟩ _⟩
    cases i with
    | zero =>
      cases hi
      have hk : k ∈ [n2, n1] := hk
      rcases List.mem_cons.1 hk with rfl | hk
      · exact ⟨1, _, rfl, by simp [Blk.nums, Cont.nums], fun _ => rfl⟩
      · cases List.mem_singleton.1 hk
        exact ⟨0, _, rfl, by simp [Blk.nums, Cont.nums], fun _ => rfl⟩
    | succ i => cases hi
  · exact hk.elim
end Go.Proofs.Ytjnehpljhnlbfaa
