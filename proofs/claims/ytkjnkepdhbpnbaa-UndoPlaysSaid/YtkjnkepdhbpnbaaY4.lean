/- Calls that make blocks and know none. -/
import Derived.Test.YtkjnkepdhbpnbaaEngQ
namespace Go.Eng
open Go
/-- New blocks beside the known ones. -/
theorem Ext.add {H H' : HH} {w w' : World} (hh : HoldsH H w) (e : Ext [] H' w w') : Ext H (H ++ H') w w' := by
  have fr : Frm [] w w' := by have := e.fr; simpa [ownNums] using this
  have old : HoldsH H w' := ⟨fun i b hi => Cont.holds_block (hh.all i b hi) (fun k hk => fr.block k (Cont.holds_lt (hh.all i b hi) k hk) (by simp)), hh.apart⟩
  have new : ∀ (i : Nat) (b : Blk), H'[i]? = some b → ∀ k ∈ b.nums, w.heap.size ≤ k := fun i b hi k hk => by
    rcases e.src i b hi k hk with ⟨j, d, hj, _⟩ | h
    · simp at hj
    · exact h
  have cases_ : ∀ (i : Nat) (b : Blk), (H ++ H')[i]? = some b → (i < H.length ∧ H[i]? = some b) ∨ (H.length ≤ i ∧ H'[i - H.length]? = some b) := by
    intro i b hi
    rw [List.getElem?_append] at hi
    split at hi
    · rename_i hl; exact .inl ⟨hl, hi⟩
    · exact .inr ⟨by omega, hi⟩
  refine ⟨⟨fun i b hi => ?_, fun i j b c hi hj hij k hk hk2 => ?_⟩, ⟨fr.os, fr.tape, fr.output, fr.size, fun k hk _ => fr.block k hk (by simp), fr.dr⟩, fun i b hi k hk => ?_⟩
  · rcases cases_ i b hi with ⟨_, h1⟩ | ⟨_, h1⟩
    · exact old.all i b h1
    · exact e.hp.all _ b h1
  · rcases cases_ i b hi with ⟨l1, h1⟩ | ⟨l1, h1⟩ <;> rcases cases_ j c hj with ⟨l2, h2⟩ | ⟨l2, h2⟩
    · exact hh.apart i j b c h1 h2 hij k hk hk2
    · have := Cont.holds_lt (hh.all i b h1) k hk
      have := new _ c h2 k hk2
      omega
    · have := Cont.holds_lt (hh.all j c h2) k hk2
      have := new _ b h1 k hk
      omega
    · exact e.hp.apart _ _ b c h1 h2 (by omega) k hk hk2
  · rcases cases_ i b hi with ⟨_, h1⟩ | ⟨_, h1⟩
    · exact .inl ⟨i, b, h1, hk, id⟩
    · exact .inr (new _ b h1 k hk)

/-- A function that knows no block and makes some. -/
theorem HOk.of_new {P : Program} {f : FuncId} {hd : Handler} (he : Enters P f) (h : ∀ rs args H K, hd rs args H K → ∃ R : AV → HH → Prop, LC P f args [] R ∧ ∀ z H', R z H' → ∃ z' H2, z'.den = z.den ∧ K (.ret z') (H ++ H2) ∧ LeH H' H2) : HOk P f hd := by
  refine ⟨he, fun rs _ args H K w hw hk => ?_⟩
  obtain ⟨R, hlc, hx⟩ := h rs args H K hk
  refine (hlc.calls w ⟨fun i b hi => by simp at hi, fun i j b c hi => by simp at hi⟩).mono fun e w' hq => ?_
  obtain ⟨r, H', rfl, hr, hext⟩ := hq
  obtain ⟨z', H2, h1, h2, h3⟩ := hx r H' hr
  exact ⟨z', H ++ H2, by rw [h1], h2, Ext.add hw ⟨h3.holds _ hext.hp, hext.fr, Whence.le hext.src h3⟩⟩

end Go.Eng

