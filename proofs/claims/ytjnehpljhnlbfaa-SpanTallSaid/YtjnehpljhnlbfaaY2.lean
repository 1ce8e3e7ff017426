/- One known block of one's own, turned by a call. -/
import Derived.Test.YtjnehpljhnlbfaaEngQ
namespace Go.Eng
open Go

/-- A call that knows one block, among other known ones: it turns the block, and makes others. -/
theorem Ext.at {H N : HH} {w w' : World} {id : Nat} {b b' : Blk} (hh : HoldsH H w) (hb : H[id]? = some b) (e : Ext [b] (b' :: N) w w') : Ext H (H.set id b' ++ N) w w' := by
  have hid : id < H.length := (List.getElem?_eq_some_iff.1 hb).1
  have keep : ∀ (i : Nat) (d : Blk), i ≠ id → H[i]? = some d → ∀ k ∈ d.nums, w'.heap[k]? = w.heap[k]? := fun i d hi hd k hk => e.fr.block k (Cont.holds_lt (hh.all i d hd) k hk) fun hm => by
    obtain ⟨j, x, hj, _, hx⟩ := mem_ownNums hm
    cases j with
    | zero => simp at hj; subst hj; exact hh.apart i id d b hd hb hi k hk hx
    | succ j => simp at hj
  have cases_ : ∀ (i : Nat) (d : Blk), (H.set id b' ++ N)[i]? = some d → (i ≠ id ∧ i < H.length ∧ H[i]? = some d) ∨ ∃ j, (b' :: N)[j]? = some d ∧ ((i = id ∧ j = 0) ∨ (H.length ≤ i ∧ j = i - H.length + 1)) := by
    intro i d hi
    rw [List.getElem?_append, List.length_set] at hi
    split at hi
    · rename_i hl
      rcases List.set_get hi with ⟨h1, h2⟩ | ⟨h1, h2, _⟩
      · exact .inl ⟨h1, hl, h2⟩
      · exact .inr ⟨0, by rw [h2]; rfl, .inl ⟨h1, rfl⟩⟩
    · rename_i hl
      exact .inr ⟨i - H.length + 1, by simpa using hi, .inr ⟨by omega, rfl⟩⟩
  have newOld : ∀ (j : Nat) (x : Blk), (b' :: N)[j]? = some x → ∀ (i : Nat) (d : Blk), i ≠ id → H[i]? = some d → ∀ k ∈ x.nums, k ∉ d.nums := fun j x hj i d hi hd k hk hk2 => by
    rcases e.src j x hj k hk with ⟨m, y, hm, hy, _⟩ | hx
    · cases m with
      | zero => simp at hm; subst hm; exact hh.apart i id d b hd hb hi k hk2 hy
      | succ m => simp at hm
    · have := Cont.holds_lt (hh.all i d hd) k hk2
      omega
  refine ⟨⟨fun i d hi => ?_, fun i j d x hi hj hij k hk hk2 => ?_⟩, ⟨e.fr.os, e.fr.tape, e.fr.output, e.fr.size, fun k hk hf => e.fr.block k hk (fun hm => hf ?_), e.fr.dr⟩, fun i d hi k hk => ?_⟩
  · rcases cases_ i d hi with ⟨h1, _, h2⟩ | ⟨j, h2, _⟩
    · exact Cont.holds_block (hh.all i d h2) (keep i d h1 h2)
    · exact e.hp.all j d h2
  · rcases cases_ i d hi with ⟨h1, h1l, h2⟩ | ⟨p, h2, h3⟩ <;> rcases cases_ j x hj with ⟨g1, g1l, g2⟩ | ⟨q, g2, g3⟩
    · exact hh.apart i j d x h2 g2 hij k hk hk2
    · exact newOld q x g2 i d h1 h2 k hk2 hk
    · exact newOld p d h2 j x g1 g2 k hk hk2
    · exact e.hp.apart p q d x h2 g2 (by omega) k hk hk2
  · obtain ⟨j, x, hj, ho, hx⟩ := mem_ownNums hm
    cases j with
    | zero => simp at hj; subst hj; exact ownNums_mem ho hx hb
    | succ j => simp at hj
  · rcases cases_ i d hi with ⟨_, _, h2⟩ | ⟨j, h2, _⟩
    · exact .inl ⟨i, d, h2, hk, fun h => h⟩
    · rcases e.src j d h2 k hk with ⟨m, y, hm, hy, ho⟩ | hx
      · cases m with
        | zero => simp at hm; subst hm; exact .inl ⟨id, b, hb, hy, ho⟩
        | succ m => simp at hm
      · exact .inr hx

/-- A contract over one block of one's own, as a handler's. -/
theorem HOk.of_at {P : Program} {f : FuncId} {hd : Handler} (he : Enters P f) (h : ∀ rs args H K, hd rs args H K → ∃ (id : Nat) (b : Blk) (args' : List AV) (R : AV → HH → Prop), H[id]? = some b ∧ denL args' = denL args ∧ LC P f args' [b] R ∧ ∀ z H', R z H' → ∃ z' b' N, z'.den = z.den ∧ K (.ret z') (H.set id b' ++ N) ∧ LeH H' (b' :: N)) : HOk P f hd := by
  refine ⟨he, fun rs _ args H K w hw hk => ?_⟩
  obtain ⟨id, b, args', R, hb, ha, hlc, hx⟩ := h rs args H K hk
  have hone : HoldsH [b] w := holds_one (hw.all id b hb)
  rw [← ha]
  refine (hlc.calls w hone).mono fun e w' hq => ?_
  obtain ⟨r, H', rfl, hr, hext⟩ := hq
  obtain ⟨z', b', N, h1, h2, h3⟩ := hx r H' hr
  exact ⟨z', H.set id b' ++ N, by rw [h1], h2, Ext.at hw hb (hext.le h3)⟩

end Go.Eng

