/- Undo: names gathered: what comes of it. -/
import Derived.Test.YtkjnkepdhbpnbaaT
import Derived.Test.YtkjnkepdhbpnbaaY8
namespace Go.Proofs.Ytkjnkepdhbpnbaa
open Go Go.Eng Go.Sp
set_option linter.unusedVariables false
set_option linter.unusedSimpArgs false

theorem LeB.cells {n : Nat} {l l' : List AV} {ty : TypeId} {own own' : Bool} (h : denL l = denL l') (ho : own' = true → own = true) : LeB ⟨n, .cells l ty, own⟩ ⟨n, .cells l' ty, own'⟩ :=
  ⟨fun k hk => hk, ho, fun w hw => by
    show Held w n (denL l') ty
    rw [← h]; exact hw⟩

theorem coll_lc (kn mn : Nat) (es : MK) (clock : Nat) (hk : (es.map (·.2)).Nodup) (hl : es.length ≤ 1048576) : LC Try.prog 41 [.fn (.func 43) [] [.ptr 0 kn 0]] [⟨kn, .cells [.mp 1 mn] 53, false⟩, ⟨mn, .mape (ByteArray × Int) kyM vlM mkM es clock, false⟩]
    (fun z H' => ∃ (r : List Nat) (a : Option Addr) (n cap : Nat) (S : List Nat), z.den = (AV.os 0 a n 0 0 1 r.length cap).den ∧ emptyOk a n r.length cap ∧ (namesR es r).Perm (es.map fun e => e.1.1) ∧ LeH H' [⟨n, .lst 0 r.length [.strs (atS (namesR es r))] S (some (cap, 9)), true⟩]) :=
  coll_vc kn mn es clock (by
    intro n1 n2
    refine ⟨rfl, rfl, fun n3 => ⟨⟨⟨[], none, 0, 0, []⟩, ⟨List.nodup_nil, fun b hb => (by cases hb), fun _ => .inl rfl⟩, ⟨rfl, rfl, rfl, rfl, trivial⟩, ?_⟩, fun x hx => ?_⟩⟩
    · refine LeH.trans (H1 := [Blk.mk kn (Cont.cells [AV.mp 1 mn] 53) false, Blk.mk mn (Cont.mape (ByteArray × Int) kyM vlM mkM es clock) false, Blk.mk n1 (Cont.cells [AV.v (Value.slice none 0 0)] 45) true, _, _, ⟨0, .lst 0 0 [.strs (atS [])] [] (some (0, 9)), true⟩]) (LeH.more rfl fun w => lst_nil (.inr ⟨_, rfl, rfl⟩)) (leAt [0, 1, 2, 3, 4, 5] (by decide) ⟨LeB.refl _, LeB.refl _, LeB.cells rfl (fun h => h), LeB.refl _, LeB.refl _, LeB.refl _, trivial⟩)
    · obtain ⟨h1, h2, h3⟩ := hx
      have hlen : x.r.length ≤ es.length := by
        have := List.Nodup.length_le_of_subset h1 (fun b hb => h2 b hb)
        simpa using this
      refine ⟨rfl, rfl, rfl, fun a b hab hb => ⟨rfl, rfl, rfl, ⟨a, hab⟩, fun a' hab' => ⟨rfl, rfl, rfl, fun n12 => ⟨rfl, rfl, rfl, rfl, Nat.le_refl _, rfl, h3, ⟨by omega, by omega⟩, fun a2 n14 n15 S' g1 g2 => ⟨rfl, rfl, ⟨b :: x.r, a2, n14, n15, S'⟩, ⟨List.nodup_cons.2 ⟨hb, h1⟩, fun c hc => ?_, g2⟩, ?_, ⟨rfl, rfl, rfl, rfl, trivial⟩, ?_⟩⟩⟩⟩, fun hall => ?_⟩
      · rcases List.mem_cons.1 hc with rfl | hc
        · exact List.mem_map.2 ⟨_, hab', rfl⟩
        · exact h2 c hc
      · have : (b :: x.r).length ≤ es.length := by
          have := List.Nodup.length_le_of_subset (l₂ := es.map (·.2)) (List.nodup_cons.2 ⟨hb, h1⟩) (fun c hc => by
            rcases List.mem_cons.1 hc with rfl | hc
            · exact List.mem_map.2 ⟨_, hab', rfl⟩
            · exact h2 c hc)
          simpa using this
        simp only [List.length_cons] at this ⊢
        omega
      · refine leAt [0, 1, 2, 3, 4, 5] (by decide) ⟨LeB.refl _, LeB.refl _, LeB.cells rfl (fun h => h), LeB.refl _, LeB.refl _, LeB.strs (Nat.le_refl _) (fun h => h) (.inr rfl) fun i hi => ?_, trivial⟩
        simp only [List.length_cons] at hi
        rw [namesR_cons, atS_cat, namesR_len]
        split
        · rfl
        · rename_i hn
          have e : i - x.r.length = 0 := by omega
          rw [e, nmB_in hk hab']
          rfl
      · refine ⟨rfl, rfl, x.r, x.a, x.n, x.cap, x.S, rfl, h3, names_perm hk h1 h2 hall, leAt [5] (by decide) ⟨LeB.refl _, trivial⟩⟩)
end Go.Proofs.Ytkjnkepdhbpnbaa

