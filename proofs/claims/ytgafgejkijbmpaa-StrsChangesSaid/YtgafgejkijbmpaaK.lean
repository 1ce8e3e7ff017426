/- Strs: the law StrsMakes. -/
import Derived.Test.YtgafgejkijbmpaaH
import Derived.Shelf.Vars
namespace Go.Eng
open Go.Sp

/-- A function of a slice of texts that writes nothing. -/
def vlH (F : (Nat → ByteArray) → Nat → AV) : Handler := fun _ args H K =>
  match args with
  | [.vl id n o 0 1 len cap] =>
    match nth H id with
    | some ⟨m, .view o' k [.strs g], _⟩ => n = m ∧ o = o' ∧ len = k ∧ (len ≤ cap ∧ len ≤ 300) ∧ K (.ret (F g len)) H
    | _ => False
  | [.v (.slice _ 0 _)] => K (.ret (F (fun _ => ByteArray.empty) 0)) H
  | _ => False

theorem vlH_ok {P : Program} {f : FuncId} {F : (Nat → ByteArray) → Nat → AV} (he : Enters P f)
    (h1 : ∀ n o len cap g, len ≤ cap → len ≤ 300 → LC P f [.vl 0 n o 0 1 len cap] [⟨n, .view o len [.strs g], false⟩] (fun z _ => z = F g len))
    (h0 : ∀ a cap, LC P f [.v (.slice a 0 cap)] [] (fun z _ => z = F (fun _ => ByteArray.empty) 0)) : HOk P f (vlH F) := by
  refine ⟨he, fun rs _ args H K w hH hk => ?_⟩
  unfold vlH at hk
  split at hk
  · rename_i id n o len cap
    split at hk
    · rename_i m o' k g own hb
      obtain ⟨rfl, rfl, rfl, ⟨h2, h3⟩, hk⟩ := hk
      rw [nth_eq] at hb
      have hv : HoldsH [⟨n, .view o len [.strs g], false⟩] w := by
        refine ⟨fun i b hi => ?_, fun i j b c hi hj hij => ?_⟩
        · cases i with
          | zero =>
            simp at hi; subst hi
            have := hH.all id _ hb
            exact this
          | succ i => simp at hi
        · cases i with
          | zero => (cases j with
            | zero => exact absurd rfl hij
            | succ j => simp at hj)
          | succ i => simp at hi
      refine ((h1 n o len cap g h2 h3).calls w hv).mono fun e w' hq => ?_
      obtain ⟨r, H', rfl, rfl, hx⟩ := hq
      have fr : Frm [] w w' := by
        have := hx.fr
        simpa [ownNums] using this
      exact ⟨_, H, rfl, hk, fr.toExt hH⟩
    · exact hk.elim
  · rename_i a cap
    refine ((h0 a cap).calls w ⟨fun i b hi => by simp at hi, fun i j b c hi => by simp at hi⟩).mono fun e w' hq => ?_
    obtain ⟨r, H', rfl, rfl, hx⟩ := hq
    have fr : Frm [] w w' := by
      have := hx.fr
      simpa [ownNums] using this
    exact ⟨_, H, rfl, hk, fr.toExt hH⟩
  · exact hk.elim

/-- What texts make, joined. -/
def joinA (g : Nat → ByteArray) (n : Nat) : AV := .tup [.v (.string (sOf (joinO g n))), .v (.int .i64 (cOf (joinO g n)))]

end Go.Eng
namespace Go.Proofs.Ytgafgejkijbmpaa
open Go Go.Eng Go.Sp
set_option linter.unusedVariables false
set_option linter.unusedSimpArgs false

open Go.RowKit in
/-- A package's variable that is a whole number lies alone in its block. -/
theorem one_of_shaped {P : Program} {w : World} {g : Nat} {t : TypeId} {zero : Array Value} {k : IntKind}
    (h : w.ShapedOpen P) (hg : g < P.globals.size)
    (h0 : ((begin P (fun _ _ => 0) default).world.heap[g]?).bind Obj.row? = some (zero, t)) (hz : zero.size = 1)
    (hb : P.buildable t = true) (hc : P.cellTypes P.depth t = some [t]) (hu : P.underlying t = some (.int k)) :
    ∃ m, w.heap[g]? = some (.cells #[.int k m] t) := by
  obtain ⟨m, hm⟩ := Go.Proofs.cell_of_shapedOpen_int h hg h0 hz hb hc hu
  obtain ⟨cs, hh, hs, _⟩ := h.1 g zero t hg h0
  refine ⟨m, ?_⟩
  have h1 : cs.size = 1 := by omega
  have h2 : cs[0]? = some (.int k m) := by simpa [World.cell?, hh] using hm
  have h3 : cs = #[.int k m] := by
    apply Array.ext
    · simp [h1]
    · intro i hi hj
      obtain rfl : i = 0 := by omega
      have := Array.getElem?_eq_getElem (xs := cs) (i := 0) (by omega)
      rw [h2] at this
      simpa using (Option.some.inj this).symm
  rw [hh, h3]

theorem holds_two {w : World} {m : Int} {t : TypeId} {n o len : Nat} {g : Nat → ByteArray} (h0 : w.heap[0]? = some (.cells #[.int .i64 m] t)) (hv : (Cont.view o len [.strs g]).holds w n) (hl : 0 < len) : HoldsH [gB m, ⟨n, .view o len [.strs g], false⟩] w := by
  have hg : HoldsH [gB m] w := cell_gB (by simp [World.cell?, h0])
  have hn : n ≠ 0 := by
    rintro rfl
    obtain ⟨c, ty, fz, hc, hx⟩ := hv
    rw [h0] at hc
    have hx := hx 0 hl 0 (.v (.string (g 0))) rfl
    simp only [Option.some.injEq, Obj.cells.injEq] at hc
    have hcl : c = [.int .i64 m] := by
      have := congrArg Array.toList hc.1
      simpa using this.symm
    rw [hcl] at hx
    cases o with
    | zero => simp [AV.den] at hx
    | succ o => simp at hx
  refine ⟨fun i b hi => ?_, fun i j b c hi hj hij => ?_⟩
  · cases i with
    | zero => exact hg.all 0 b (by simpa using hi)
    | succ i =>
      cases i with
      | zero => simp at hi; subst hi; exact hv
      | succ i => simp at hi
  · cases i with
    | zero =>
      simp at hi; subst hi
      cases j with
      | zero => exact absurd rfl hij
      | succ j =>
        cases j with
        | zero => simp at hj; subst hj; intro k hk; simp [Blk.nums, Cont.nums, gB] at hk ⊢; omega
        | succ j => simp at hj
    | succ i =>
      cases i with
      | zero =>
        simp at hi; subst hi
        cases j with
        | zero => simp at hj; subst hj; intro k hk; simp [Blk.nums, Cont.nums, gB] at hk ⊢; omega
        | succ j =>
          cases j with
          | zero => exact absurd rfl hij
          | succ j => simp at hj
      | succ i => simp at hi

theorem sjoin_ok : HOk Try.prog 33 (vlH joinA) := vlH_ok (enters_of (c := body Try.f33) Try.func33 rfl (by kernel_rfl)) (fun n o len cap g h1 h2 => sjoin_lc n o len cap g h1 h2) (fun a cap => sjoin0_lc a cap _)

theorem rjoin_ok : HOk Try.prog 34 (vlH joinA) := vlH_ok (enters_of (c := body Try.f34) Try.func34 rfl (by kernel_rfl)) (fun n o len cap g _ h2 => rjoin_lc n o len cap g h2) (fun a cap => rjoin0_lc a cap _)

def k1 : Tbl := (14, .gen (glH livesH)) :: (27, .gen (glH trimH)) :: (31, .pure rtrimH) :: (30, .pure repeatH) :: (32, .pre rrepH) :: (33, .gen (vlH joinA)) :: (34, .gen (vlH joinA)) :: (28, .pure lowerH) :: (35, .pure rlowerH) :: (36, .pure charH) :: (37, .pure rcharH) :: (38, .pure codeH) :: (39, .pure rcodeH) :: []

theorem k1_ok : TblOk Try.prog k1 := ⟨lives_ok, trim_ok, rtrim_ok, repeat_ok, rrep_ok, sjoin_ok, rjoin_ok, lower_ok, rlower_ok, char_ok, rchar_ok, code_ok, rcode_ok, trivial⟩


set_option maxRecDepth 100000 in
theorem makes0_vc (m : Int) (s : ByteArray) (n : Int) (a : Option Addr) (cap : Nat) {R : AV → Prop} (h : (True ∧ n ≤ (9223372036854775807 : Int) ∧ br (eqS (sOf (trimO s)) (sOf (trimO s))) (br (cOf (trimO s) == cOf (trimO s)) (br (eqS (sOf (repO s n)) (sOf (repO s n))) (br (cOf (repO s n) == cOf (repO s n)) (br (eqS (sOf (lowO s)) (sOf (lowO s))) (br (cOf (lowO s) == cOf (lowO s)) (br (eqS (sOf (charO n)) (sOf (charO n))) (br (cOf (charO n) == cOf (charO n)) (br (nOf (codeO s) == nOf (codeO s)) (br (cOf (codeO s) == cOf (codeO s)) (True ∧ R (AV.v (Value.bool true))) (R (AV.v (Value.bool false)))) (R (AV.v (Value.bool false)))) (R (AV.v (Value.bool false)))) (R (AV.v (Value.bool false)))) (R (AV.v (Value.bool false)))) (R (AV.v (Value.bool false)))) (R (AV.v (Value.bool false)))) (R (AV.v (Value.bool false)))) (R (AV.v (Value.bool false)))) (R (AV.v (Value.bool false))))) : LC Try.prog 11 [.v (.string s), .v (.int .i64 n), .v (.slice a 0 cap)] [gB m] (fun z_ _ => R z_) :=
  lc_of_exec (tbl := k1) tab_ok k1_ok mixed noinv 2 _ Try.func11 rfl Try.ntmps11 (by decide) (by kernel_rfl) (Nat.le_of_ble_eq_true rfl) (@Eq.mpr (execN tab k1 noinv 2 Try.f11.ntmps [] none 0 (body Try.f11) (argsT [.v (.string s), .v (.int .i64 n), .v (.slice a 0 cap)] 0) [gB m] (post Try.f11 tab (retK (fun z_ _ => R z_)))) _ (by kernel_rfl) h)


theorem makes_law_0 (m : Int) (s : ByteArray) (n : Int) (a : Option Addr) (cap : Nat) (hs : s.size ≤ 140737488351232) (h2 : -9223372036854775808 ≤ n ∧ n ≤ 9223372036854775807) :
    LC Try.prog 11 [.v (.string s), .v (.int .i64 n), .v (.slice a 0 cap)] [gB m] (fun z _ => z = .v (.bool true)) :=
  makes0_vc m s n a cap (by
    simp [br_iff, eqS_refl]
    try omega)


set_option maxRecDepth 100000 in
theorem makes_vc (m : Int) (s : ByteArray) (n : Int) (b o len cap : Nat) (g : Nat → ByteArray) {R : AV → Prop} (h : (br (decide ((↑len : Int) > (300 : Int))) (True ∧ R (AV.v (Value.bool true))) (True ∧ n ≤ (9223372036854775807 : Int) ∧ b = b ∧ o = o ∧ len = len ∧ (len ≤ cap ∧ len ≤ (300 : Nat)) ∧ b = b ∧ o = o ∧ len = len ∧ (len ≤ cap ∧ len ≤ (300 : Nat)) ∧ br (eqS (sOf (trimO s)) (sOf (trimO s))) (br (cOf (trimO s) == cOf (trimO s)) (br (eqS (sOf (repO s n)) (sOf (repO s n))) (br (cOf (repO s n) == cOf (repO s n)) (br (eqS (sOf (joinO g len)) (sOf (joinO g len))) (br (cOf (joinO g len) == cOf (joinO g len)) (br (eqS (sOf (lowO s)) (sOf (lowO s))) (br (cOf (lowO s) == cOf (lowO s)) (br (eqS (sOf (charO n)) (sOf (charO n))) (br (cOf (charO n) == cOf (charO n)) (br (nOf (codeO s) == nOf (codeO s)) (br (cOf (codeO s) == cOf (codeO s)) (True ∧ R (AV.v (Value.bool true))) (R (AV.v (Value.bool false)))) (R (AV.v (Value.bool false)))) (R (AV.v (Value.bool false)))) (R (AV.v (Value.bool false)))) (R (AV.v (Value.bool false)))) (R (AV.v (Value.bool false)))) (R (AV.v (Value.bool false)))) (R (AV.v (Value.bool false)))) (R (AV.v (Value.bool false)))) (R (AV.v (Value.bool false)))) (R (AV.v (Value.bool false)))) (R (AV.v (Value.bool false)))))) : LC Try.prog 11 [.v (.string s), .v (.int .i64 n), .vl 1 b o 0 1 len cap] [gB m, ⟨b, .view o len [.strs g], false⟩] (fun z_ _ => R z_) :=
  lc_of_exec (tbl := k1) tab_ok k1_ok mixed noinv 2 _ Try.func11 rfl Try.ntmps11 (by decide) (by kernel_rfl) (Nat.le_of_ble_eq_true rfl) (@Eq.mpr (execN tab k1 noinv 2 Try.f11.ntmps [] none 0 (body Try.f11) (argsT [.v (.string s), .v (.int .i64 n), .vl 1 b o 0 1 len cap] 0) [gB m, ⟨b, .view o len [.strs g], false⟩] (post Try.f11 tab (retK (fun z_ _ => R z_)))) _ (by kernel_rfl) h)


theorem makes_law_1 (m : Int) (s : ByteArray) (n : Int) (b o len cap : Nat) (g : Nat → ByteArray) (hs : s.size ≤ 140737488351232) (h2 : -9223372036854775808 ≤ n ∧ n ≤ 9223372036854775807) (_ : 0 < len) (h4 : len ≤ cap) (_ : cap ≤ 9223372036854775807) :
    LC Try.prog 11 [.v (.string s), .v (.int .i64 n), .vl 1 b o 0 1 len cap] [gB m, ⟨b, .view o len [.strs g], false⟩] (fun z _ => z = .v (.bool true)) :=
  makes_vc m s n b o len cap g (by
    simp [br_iff, eqS_refl]
    try omega)
end Go.Proofs.Ytgafgejkijbmpaa

