/- View: numerals. -/
import Derived.Test.YthkegefjmcipmaaDoorPD
import Derived.Test.YthkegefjmcipmaaDoorShelf
import Derived.Test.YthkegefjmcipmaaDoorEngN
import Derived.Lib.AppendIntMem
namespace Go.Sp
open Go.Eng Go.Proofs.YthkegefjmcipmaaDoor

/-- A block that holds the library's table of the powers of ten. -/
structure tabOk (o : Obj) : Prop where
  get : ∃ ty fz, o = .cells (Lib.pow10Tab.map fun z => Value.int .u64 z).toArray ty fz

/-- The numeral of a number. -/
def numL (n : Int) : ByteArray := mkS (Lib.decDigits n.toNat)

end Go.Sp
namespace Go.Eng
open Go.Sp

/-- The block of the table. -/
def tB (g : Nat) (o : Obj) : Blk := ⟨g, .obj o, false⟩

/-- A function that reads that table alone. -/
def tabH (G : Nat) (F : List AV → Option (Prop × AV)) : Handler := fun _ args H K =>
  match nth H 0 with
  | some ⟨n, .obj o, _⟩ => n = G ∧ tabOk o ∧ (match F args with | some (c, v) => c ∧ K (.ret v) H | none => False)
  | _ => False

theorem frm_of_below {w w' : World} (h : RowKit.Below w.heap.size w w') : Frm [] w w' := ⟨h.os, h.tape, h.output, h.size, fun k hk _ => h.block k hk, trivial⟩

theorem tabH_ok {P : Program} {f G : Nat} {F : List AV → Option (Prop × AV)} (he : Enters P f) (h : ∀ args p o, F args = some p → p.1 → tabOk o → LC P f args [tB G o] (fun r _ => r = p.2)) : HOk P f (tabH G F) := by
  refine ⟨he, fun rs _ args H K w hH hk => ?_⟩
  unfold tabH at hk
  split at hk
  · rename_i n o own hb
    obtain ⟨rfl, ho, hk⟩ := hk
    split at hk
    · rename_i c v hv
      rw [nth_eq] at hb
      have h0 := hH.all 0 _ hb
      have hc : HoldsH [tB n o] w := by
        refine ⟨fun i b hi => ?_, fun i j b c hi hj hij => ?_⟩
        · cases i with
          | zero => simp at hi; subst hi; exact h0
          | succ i => simp at hi
        · cases i with
          | zero => (cases j with
            | zero => exact absurd rfl hij
            | succ j => simp at hj)
          | succ i => simp at hi
      refine ((h args (c, v) o hv hk.1 ho).calls w hc).mono fun e w' hq => ?_
      obtain ⟨r, H', rfl, rfl, hx⟩ := hq
      have fr : Frm [] w w' := by
        have := hx.fr
        simpa [ownNums, tB] using this
      exact ⟨_, H, rfl, hk.2, fr.toExt hH⟩
    · exact hk.elim
  · exact hk.elim

theorem tab_is {P : Program} {G : Nat} {o : Obj} {w : World} (hg : P.globalNamed "internal/strconv.uint64pow10" = some G) (ho : tabOk o) (hw : HoldsH [tB G o] w) : Lib.TabIs P w "internal/strconv.uint64pow10" .u64 Lib.pow10Tab := by
  obtain ⟨ty, fz, rfl⟩ := ho.get
  have h0 : w.heap[G]? = some _ := hw.all 0 _ rfl
  show World.var? P w _ = _
  rw [World.var?, hg, Option.bind_some, h0]

def digH (k : Nat) : List AV → Option (Prop × AV)
  | [.v (.int .i64 n)] => some (0 ≤ n ∧ (1 ≤ k ∧ n < ((10 ^ k : Nat) : Int)) ∧ n ≤ 9223372036854775807, .v (.string (numL n)))
  | _ => none

def itoaF : List AV → Option (Prop × AV)
  | [.v (.int .i64 n)] => some (0 ≤ n ∧ n ≤ 9223372036854775807, .v (.string (numL n)))
  | _ => none

end Go.Eng
namespace Go.Proofs.YthkegefjmcipmaaDoor
open Go Go.Eng Go.Sp
set_option linter.unusedVariables false
set_option linter.unusedSimpArgs false

/-- The table's number among the package's variables. -/
def GT : Nat := 0

theorem gt_ok : Tryd.prog.globalNamed "internal/strconv.uint64pow10" = some GT := by kernel_rfl

theorem itoa_h : HOk Tryd.prog 25 (tabH GT itoaF) := tabH_ok (enters_of (c := body Tryd.f25) Tryd.func25 rfl (by kernel_rfl)) fun args p o h hp ho => by
  unfold itoaF at h
  split at h
  · rename_i n
    cases h
    refine ⟨enters_of (c := body Tryd.f25) Tryd.func25 rfl (by kernel_rfl), fun w hw => (Go.Proofs.Tryd.strconv_Itoa n (Int.le_trans (by decide) hp.1) hp.2 w (tab_is gt_ok ho hw)).mono fun e w' hq => ?_⟩
    obtain ⟨rfl, k, os, rfl⟩ := hq
    refine ⟨_, [tB GT o], ?_, rfl, (frm_of_below (Lib.below_grow _ w (Nat.le_refl _) k os)).toExt hw⟩
    have h0 : 0 ≤ n := hp.1
    show Ending.returned (Value.string ⟨(Lib.itoa n).toArray⟩) = .returned (Value.string (mkS (Lib.decDigits n.toNat)))
    rw [Lib.itoa, if_neg (by omega)]
    rfl
  · cases h

def pf0 : Tbl := (25, .gen (tabH GT itoaF)) :: []

theorem pf0_ok : TblOk Tryd.prog pf0 := ⟨itoa_h, trivial⟩


set_option maxRecDepth 100000 in
theorem digs_vc (k : Nat) (hk : TblOk Tryd.prog [(32, .pre (digH k))]) (n : Int) {R : AV → Prop} (h : ((10 : Int) ≠ (0 : Int) ∧ ∀ (n1 : Nat), n1 = n1 ∧ br (decide (n < (10 : Int))) (R (AV.v (Value.string (mkI [IntKind.u8.wrap (IntKind.i64.wrap ((48 : Int) + n.tmod (10 : Int)))])))) ((10 : Int) ≠ (0 : Int) ∧ ((0 : Int) ≤ IntKind.i64.wrap (n.tdiv (10 : Int)) ∧ ((1 : Nat) ≤ k ∧ IntKind.i64.wrap (n.tdiv (10 : Int)) < (↑((10 : Nat) ^ k) : Int)) ∧ IntKind.i64.wrap (n.tdiv (10 : Int)) ≤ (9223372036854775807 : Int)) ∧ (numL (IntKind.i64.wrap (n.tdiv (10 : Int)))).size + (mkI [IntKind.u8.wrap (IntKind.i64.wrap ((48 : Int) + n.tmod (10 : Int)))]).size ≤ (9223372036854775807 : Nat) ∧ R (AV.v (Value.string (catS (numL (IntKind.i64.wrap (n.tdiv (10 : Int)))) (mkI [IntKind.u8.wrap (IntKind.i64.wrap ((48 : Int) + n.tmod (10 : Int)))]))))))) : LC Tryd.prog 32 [.v (.int .i64 n)] [] (fun z_ _ => R z_) :=
  lc_of_exec (tbl := [(32, .pre (digH k))]) tab_ok hk mixed noinv 2 _ Tryd.func32 rfl Tryd.ntmps32 (by decide) (by kernel_rfl) (Nat.le_of_ble_eq_true rfl) (@Eq.mpr (execN tab [(32, .pre (digH k))] noinv 2 Tryd.f32.ntmps [] none 0 (body Tryd.f32) (argsT [.v (.int .i64 n)] 0) [] (post Tryd.f32 tab (retK (fun z_ _ => R z_)))) _ (by kernel_rfl) h)


theorem num_small {n : Int} (h0 : 0 ≤ n) (h : n < 10) : numL n = mkI [n + 48] := by
  rw [numL, Lib.decDigits, dif_pos (by omega), mkI]
  show mkS [UInt8.ofNat (48 + n.toNat)] = mkS [UInt8.ofNat (n + 48).toNat]
  rw [show 48 + n.toNat = (n + 48).toNat by omega]

theorem num_big {n : Int} (h : 10 ≤ n) : numL n = catS (numL (n / 10)) (mkI [n % 10 + 48]) := by
  rw [numL, Lib.decDigits, dif_neg (by omega), numL, catS, data_mkS, mkI]
  show mkS (Lib.decDigits (n.toNat / 10) ++ [UInt8.ofNat (48 + n.toNat % 10)]) = mkS (Lib.decDigits (n / 10).toNat ++ [UInt8.ofNat (n % 10 + 48).toNat])
  rw [show n.toNat / 10 = (n / 10).toNat by omega, show 48 + n.toNat % 10 = (n % 10 + 48).toNat by omega]

theorem num_size {n : Int} : ∀ (k : Nat), 0 ≤ n → n < ((10 ^ (k + 1) : Nat) : Int) → (numL n).size ≤ k + 1 := fun k h0 h => by
  rw [numL, size_mkS, Lib.decDigits_length]
  have main : ∀ (k u : Nat), u < 10 ^ (k + 1) → Lib.nDigits u ≤ k + 1 := by
    intro k
    induction k with
    | zero => intro u hu; rw [Lib.nDigits_small (by simpa using hu)]; exact Nat.le_refl _
    | succ k ih =>
      intro u hu
      by_cases h10 : u < 10
      · rw [Lib.nDigits_small h10]; omega
      · rw [Lib.nDigits_big h10]
        have := ih (u / 10) (by rw [Nat.pow_succ] at hu; omega)
        omega
  exact main k n.toNat (by omega)

theorem digs_step (k : Nat) (hk : TblOk Tryd.prog [(32, .pre (digH k))]) (n : Int) (h0 : 0 ≤ n) (h1 : n < ((10 ^ (k + 1) : Nat) : Int)) (h2 : n ≤ 9223372036854775807) : LC Tryd.prog 32 [.v (.int .i64 n)] [] (fun z _ => z = .v (.string (numL n))) :=
  digs_vc k hk n (by
    have hp : 10 ^ (k + 1) = 10 ^ k * 10 := Nat.pow_succ ..
    rw [hp] at h1
    have e1 : n.tmod 10 = n % 10 := tmod_nn h0 10
    have e2 : n.tdiv 10 = n / 10 := tdiv_nn h0 10
    have e3 : IntKind.i64.wrap (n / 10) = n / 10 := w64 (by omega)
    have e4 : IntKind.u8.wrap (IntKind.i64.wrap (48 + n % 10)) = n % 10 + 48 := by rw [w64 (by omega), w8 (by omega)]; omega
    simp only [e1, e2, e3, e4, true_and, br_iff, decide_eq_true_eq, decide_eq_false_iff_not]
    refine ⟨by decide, fun _ => ⟨fun h => ?_, fun h => ⟨by decide, ⟨by omega, ⟨?_, by omega⟩, by omega⟩, ?_, ?_⟩⟩⟩
    · rw [num_small h0 h, Int.emod_eq_of_lt h0 h]
    · cases k with
      | zero => simp at h1; omega
      | succ k => omega
    · have := num_size 18 (n := n / 10) (by omega) (by omega)
      rw [size_mkI, List.length_singleton]
      omega
    · rw [← num_big (by omega)])

theorem digs_ok : ∀ k : Nat, PrOk Tryd.prog 32 (digH k)
  | 0 => PrOk.of_lc (enters_of (c := body Tryd.f32) Tryd.func32 rfl (by kernel_rfl)) (by
    intro args p h hp
    unfold digH at h
    split at h
    · cases h
      exact absurd hp.2.1.1 (by omega)
    · cases h)
  | k + 1 => PrOk.of_lc (enters_of (c := body Tryd.f32) Tryd.func32 rfl (by kernel_rfl)) (by
    intro args p h hp
    unfold digH at h
    split at h
    · cases h
      exact digs_step k ⟨digs_ok k, trivial⟩ _ hp.1 hp.2.1.2 hp.2.2
    · cases h)

def pf1 : Tbl := (32, .pre (digH 19)) :: pf0

theorem pf1_ok : TblOk Tryd.prog pf1 := ⟨digs_ok 19, pf0_ok⟩

theorem strL_size (c : Int) : (strL c).size ≤ 3 := by
  unfold strL ltrs
  repeat' split
  all_goals first | (rw [size_mkI]; simp; done) | decide

end Go.Proofs.YthkegefjmcipmaaDoor

