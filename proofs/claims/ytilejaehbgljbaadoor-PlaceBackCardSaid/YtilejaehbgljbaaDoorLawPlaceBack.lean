/- The statement PlaceBackCardSaid: the law PlaceBack returns true whatever the input is, and leaves its arguments as they were. No condition. -/
import Derived.Test.YtilejaehbgljbaaDoorCards
import Derived.Test.YtilejaehbgljbaaDoorTie
import Derived.Test.YtilejaehbgljbaaDoorK
import Derived.Test.YtilejaehbgljbaaDoorJ
import Derived.Test.YtilejaehbgljbaaDoorEngR
import Derived.Test.YtilejaehbgljbaaDoorY3
import Derived.WalkKit
import Derived.ProofKit
import Derived.OpenShut
import Derived.ShutString
import Derived.ChangeOld
import Derived.Below
import Derived.Carry
import Derived.SizedLaws
import Derived.LaidMore
import Derived.Lib.LaidTab
import Derived.Stop.LaidErr
import Derived.MakeChecks
import Derived.Stop.Joined
import Derived.SevenTiedAt
import Derived.Lib.SmallJoins
namespace Go.Proofs.YtilejaehbgljbaaDoor.placeBack
open Go.ChangeShapes Go.WideShapes Go.WideMaps Go.WideElems Go.ChangeAt Go.RowKit Go.Joins Go.Eng
open Go.ChangeMaps (open_string shut_string)
set_option linter.unusedVariables false
theorem own : ownKnob Tryd.prog.godebug = none := by kernel_rfl
theorem door_met (os : Os) (args : Array Value) : laidMetH Tryd.prog Rows.placeBackRow.laid ((World.doorLaid Tryd.prog 4000 os).forCall (fun _ _ => 0) ⟨#[], args, []⟩).memory :=
  laidMetH_of_parts3 (fuel := 64) (laidMet_of_run' 64 (by kernel_rfl) (by kernel_rfl)) (by kernel_rfl) (by kernel_rfl)
theorem laidOut : laidOutB Tryd.prog = true := by kernel_rfl
set_option maxRecDepth 100000 in
theorem lifted (os : Os) (started : os.Started) (H : Type) (enc : TypeId × Value → H) :
    ReturnsInHanded {} Tryd.checked os 5 .any (fun w args => (Rows.placeBackSpec.pre enc Tryd.prog Tryd.f5 Rows.placeBackRow.domain false w args ∧ laidMetH Tryd.prog Rows.placeBackRow.laid w) ∧ sizedMet enc Tryd.prog Tryd.f5 (OpenSpec.ofChange Rows.placeBackSpec) false w args) (Rows.placeBackSpec.post enc Tryd.prog Tryd.f5 false true false false) := by
  refine returnsInHanded_of_change_and (C := Tryd.checked) (X := fun w _ => laidMetH Tryd.prog Rows.placeBackRow.laid w) (fun _ _ _ hh h => h.of_heap hh) own started (by kernel_rfl) Tryd.func5
    (ChangeSpec.witness_shaped (enc := enc) (C := Tryd.checked) (os := os) (X := fun w _ => laidMetH Tryd.prog Rows.placeBackRow.laid w) false (World.doorLaid Tryd.prog 4000 os) #[.agg #[.int .i64 0, .int .i64 0, .bool false, .bool false], .string ByteArray.empty] 8 rfl (World.shaped_of_RefB (by kernel_rfl) (by kernel_rfl)) (by kernel_rfl) (by kernel_rfl) (by kernel_rfl) (door_met os _)) ?_
  intro W base args ds gs before hval0 hW hcnd hsz0 hL _
  have hL1 : laidMet Tryd.prog Rows.placeBackRow.laid W := by rw [← MakeChecks.laidMetH_plain _ _ _ (by kernel_rfl)]; exact hL
  obtain ⟨o_, ho_, hb_⟩ := tab_of_laid hL1.tail.tail
  have hsz : (DataW.weightsEach Tryd.prog (Tryd.f5.params.toList ++ Rows.placeBackSpec.plain.varTypes Tryd.prog) (ds ++ gs)).all (· ≤ reachBytes) = true := hsz0
  have hval : ∀ (j : Nat) t v, Tryd.f5.params[j]? = some t → args[j]? = some v → Value.okWide Tryd.prog W .any base t v := hval0
  have hW' := hW
  obtain ⟨p, q, hA0, hV, rfl, hfz, hnd⟩ := hW
  have hA : DataW.TrodAll enc Tryd.prog W 0 (fun _ => true) true Tryd.f5.params.toList args.toList ds p := hA0
  rw [Tryd.params5] at hA hval hsz
  obtain ⟨v0, vs0, d0, ds0, p0, q0, hargs, rfl, rfl, h0, r0⟩ := trodAll_cons hA
  obtain ⟨v1, vs1, d1, ds1, p1, q1, rfl, rfl, rfl, h1, r1⟩ := trodAll_cons r0
  obtain ⟨rfl, rfl, rfl⟩ := trodAll_nil r1
  obtain rfl : args = #[v0, v1] := by cases args; simp_all
  obtain ⟨rfl, rfl⟩ := trodVars_none hV
  have k0 := h0
  have lt0 : ∀ x ∈ p0, x.block < W.heap.size := by obtain ⟨m, hm⟩ := k0; exact DataW.trod_lt m _ _ _ hm
  obtain ⟨l0, rfl, kd0⟩ := open_kinds tab_ok Tryd.underlying36 (by kernel_rfl : kindsOf tab 5 36 = some [.int .i64, .int .i64, .bool, .bool]) (hval 0 36 v0 rfl rfl) h0
  obtain ⟨x0_0, l0_0, rfl, ⟨a0_0, rfl, w0_0⟩, kd0_0⟩ := AllKd.cons_inv kd0
  obtain ⟨x0_1, l0_1, rfl, ⟨a0_1, rfl, w0_1⟩, kd0_1⟩ := AllKd.cons_inv kd0_0
  obtain ⟨x0_2, l0_2, rfl, ⟨a0_2, rfl⟩, kd0_2⟩ := AllKd.cons_inv kd0_1
  obtain ⟨x0_3, l0_3, rfl, ⟨a0_3, rfl⟩, kd0_3⟩ := AllKd.cons_inv kd0_2
  obtain rfl := AllKd.nil_inv kd0_3
  have k1 := h1
  have lt1 : ∀ x ∈ p1, x.block < W.heap.size := by obtain ⟨m, hm⟩ := k1; exact DataW.trod_lt m _ _ _ hm
  obtain ⟨a1, rfl, rfl, rfl, w1⟩ := open_string Tryd.underlying9 (hval 1 9 v1 rfl rfl) h1
  have z1 : a1.size ≤ 140737488351232 := by have h := sized_string hsz (j := 1) (t := 9) rfl rfl; rw [Array.length_toList] at h; exact h
  clear hA0 hval0 hsz0 hsz
  refine ((back_law o_ ho_ a0_0 a0_1 a0_2 a0_3 a1 (wf_i64 w0_0) (wf_i64 w0_1) z1).calls W hb_).mono fun e W' hq => ?_
  obtain ⟨r, H', rfl, rfl, hx⟩ := hq
  have bel : Below W.heap.size W W' := ⟨hx.fr.os, hx.fr.tape, hx.fr.output, hx.fr.size, fun k hk => hx.fr.block k hk (by simp [ownNums, tB])⟩
  exact ⟨_, rfl, _, _, _, [], _, [], hW', trodAll_mk1 (shut_bool Tryd.underlying4 _), (trodAll_cons_mk (Below.trod laidOut (by kernel_rfl) (of_decide_eq_true (by kernel_rfl)) k0 bel lt0) (trodAll_cons_mk (Below.trod laidOut (by kernel_rfl) (of_decide_eq_true (by kernel_rfl)) k1 bel lt1) trodAll_mk0)), rfl, bel.frame _, fun h => by cases h⟩
theorem over : Rows.placeBackRow.holds Tryd.pinned (OpenSpec.ofChange Rows.placeBackSpec) :=
  OpenClaim.holds_of_wide 5 Tryd.f5 rfl rfl rfl rfl rfl rfl rfl ⟨rfl, rfl, rfl, rfl, rfl⟩ rfl rfl rfl rfl rfl (by kernel_rfl) Tryd.func5 (by kernel_rfl)
    (of_decide_eq_true (by kernel_rfl)) (by unfold Func.isWrapper; first | (rw [if_pos (by decide +kernel)]; kernel_rfl) | (rw [if_neg (by decide +kernel)]; exact ⟨rfl, rfl⟩))
    (fun os started H enc _ => lifted os started H enc)
theorem carded : Rows.PlaceBackCardSaid :=
  Claim7.holds_tied_plain_at .later [] [.data, .data, .data, .sentinel, .sentinel] true Rows.placeBackCard.stood.harness true
    over (fun _ h => by cases h) (by kernel_rfl) (fun _ h => by cases h) placeBack_row_tie rfl ⟨rfl, rfl⟩ (by kernel_rfl) rfl
    (fun f fn hf hfn => by
      obtain rfl : f = 5 := Option.some.inj ((show Tryd.prog.funcNamed Rows.placeBackRow.func = some 5 by kernel_rfl).symm.trans hf) |>.symm
      obtain rfl : fn = Tryd.f5 := (Option.some.inj (Tryd.func5.symm.trans hfn)).symm
      exact ⟨by kernel_rfl, fun j t ht => by
        rw [Tryd.params5] at ht
        have hm : t ∈ [36, 9] := by simpa using Array.mem_of_getElem? ht
        have hall : ([36, 9].all fun u => !Tryd.prog.wantsStandIn u) = true := by kernel_rfl
        exact (show Tryd.prog.wantsStandIn t = false by simpa using List.all_eq_true.1 hall t hm)⟩)
    (by kernel_rfl)
theorem proved : Rows.PlaceBackCardSaid := carded
#print axioms proved
end Go.Proofs.YtilejaehbgljbaaDoor.placeBack
namespace Go.Proofs.YtilejaehbgljbaaDoor
/-- The row, under a short name, for the claim. -/
theorem placeBack_holds : Rows.PlaceBackCardSaid := placeBack.proved
end Go.Proofs.YtilejaehbgljbaaDoor
