/- Blocks that a call takes, and blocks that it makes of them. -/
import Derived.Test.YtjnehpljhnlbfaaY8
namespace Go.Eng
open Go

/-- Where a block was. -/
def hole : Blk := ⟨0, .lst 0 0 [] [] none, false⟩
def holes : HH → List Nat → HH
  | H, [] => H
  | H, i :: l => holes (H.set i hole) l

theorem holes_get : ∀ {l : List Nat} {H : HH} {i : Nat} {b : Blk}, (holes H l)[i]? = some b → b = hole ∨ (i ∉ l ∧ H[i]? = some b)
  | [], H, i, b, h => .inr ⟨by simp, h⟩
  | j :: l, H, i, b, h => by
    rcases holes_get (l := l) h with h | ⟨h1, h2⟩
    · exact .inl h
    · rw [List.getElem?_set] at h2
      split at h2
      · split at h2
        · cases h2; exact .inl rfl
        · cases h2
      · rename_i hij
        exact .inr ⟨fun h => (by
          rcases List.mem_cons.1 h with rfl | h
          · exact hij rfl
          · exact h1 h), h2⟩

theorem hole_nums : hole.nums = [] := rfl

theorem Ext.take {H Hin H' N : HH} {is : List Nat} {w w' : World} (hh : HoldsH H w) (hb : LeBs (pickH H is) Hin) (e : Ext Hin H' w w') (h3 : LeH H' N) : Ext H (holes H is ++ N) w w' := by
  have src : ∀ (m : Nat) (x : Blk), Hin[m]? = some x → ∀ k ∈ x.nums, ∃ (i : Nat) (c : Blk), i ∈ is ∧ H[i]? = some c ∧ k ∈ c.nums ∧ (x.own = true → c.own = true) := fun m x hm k hk => by
    obtain ⟨b, hb', h1, h2, _⟩ := LeBs.get hb hm
    obtain ⟨j, hj, hjb⟩ := pickH_src hb'
    exact ⟨j, b, hj, hjb, h1 k hk, h2⟩
  have own : ∀ k, k ∈ ownNums Hin → ∃ (i : Nat) (c : Blk), i ∈ is ∧ H[i]? = some c ∧ k ∈ c.nums ∧ c.own = true := fun k hk => by
    obtain ⟨m, x, hm, ho, hkx⟩ := mem_ownNums hk
    obtain ⟨i, c, h1, h2, h3, h4⟩ := src m x hm k hkx
    exact ⟨i, c, h1, h2, h3, h4 ho⟩
  have old : ∀ (i : Nat) (b : Blk), i ∉ is → H[i]? = some b → b.c.holds w' b.num := fun i b hi hib =>
    Cont.holds_block (hh.all i b hib) fun k hk => e.fr.block k (Cont.holds_lt (hh.all i b hib) k hk) fun hko => by
      obtain ⟨j, c, h1, h2, h3, _⟩ := own k hko
      exact hh.apart i j b c hib h2 (fun e => hi (e ▸ h1)) k hk h3
  have hN := h3.holds _ e.hp
  have new : ∀ (i : Nat) (b : Blk), N[i]? = some b → ∀ k ∈ b.nums, (∃ (j : Nat) (c : Blk), j ∈ is ∧ H[j]? = some c ∧ k ∈ c.nums ∧ (b.own = true → c.own = true)) ∨ w.heap.size ≤ k := fun i b hi k hk => by
    obtain ⟨j, d, hj, hd, ho⟩ := h3.src i b hi k hk
    rcases e.src j d hj k hd with ⟨m, x, hm, hx, hxo⟩ | h
    · obtain ⟨q, c, q1, q2, q3, q4⟩ := src m x hm k hx
      exact .inl ⟨q, c, q1, q2, q3, fun h => q4 (hxo (ho h))⟩
    · exact .inr h
  have cases_ : ∀ (i : Nat) (b : Blk), (holes H is ++ N)[i]? = some b → b = hole ∨ (i < (holes H is).length ∧ i ∉ is ∧ H[i]? = some b) ∨ ((holes H is).length ≤ i ∧ N[i - (holes H is).length]? = some b) := by
    intro i b hi
    rw [List.getElem?_append] at hi
    split at hi
    · rename_i hl
      rcases holes_get hi with h | ⟨h1, h2⟩
      · exact .inl h
      · exact .inr (.inl ⟨hl, h1, h2⟩)
    · exact .inr (.inr ⟨by omega, hi⟩)
  refine ⟨⟨fun i b hi => ?_, fun i j b c hi hj hij k hk hk2 => ?_⟩, ⟨e.fr.os, e.fr.tape, e.fr.output, e.fr.size, fun k hk hn => e.fr.block k hk fun hko => ?_, e.fr.dr⟩, fun i b hi k hk => ?_⟩
  · rcases cases_ i b hi with rfl | ⟨_, h1, h2⟩ | ⟨_, h1⟩
    · exact lst_nil (.inl rfl)
    · exact old i b h1 h2
    · exact hN.all _ b h1
  · rcases cases_ i b hi with rfl | ⟨l1, g1, h1⟩ | ⟨l1, h1⟩
    · rw [hole_nums] at hk; cases hk
    · rcases cases_ j c hj with rfl | ⟨l2, g2, h2⟩ | ⟨l2, h2⟩
      · rw [hole_nums] at hk2; cases hk2
      · exact hh.apart i j b c h1 h2 hij k hk hk2
      · rcases new _ c h2 k hk2 with ⟨q, d, q1, q2, q3, _⟩ | h
        · exact hh.apart i q b d h1 q2 (fun e => g1 (e ▸ q1)) k hk q3
        · have := Cont.holds_lt (hh.all i b h1) k hk
          omega
    · rcases cases_ j c hj with rfl | ⟨l2, g2, h2⟩ | ⟨l2, h2⟩
      · rw [hole_nums] at hk2; cases hk2
      · rcases new _ b h1 k hk with ⟨q, d, q1, q2, q3, _⟩ | h
        · exact hh.apart j q c d h2 q2 (fun e => g2 (e ▸ q1)) k hk2 q3
        · have := Cont.holds_lt (hh.all j c h2) k hk2
          omega
      · exact hN.apart _ _ b c h1 h2 (by omega) k hk hk2
  · obtain ⟨i, c, _, h2, h3, h4⟩ := own k hko
    exact hn (ownNums_mem h4 h3 h2)
  · rcases cases_ i b hi with rfl | ⟨_, _, h1⟩ | ⟨_, h1⟩
    · rw [hole_nums] at hk; cases hk
    · exact .inl ⟨i, b, h1, hk, id⟩
    · rcases new _ b h1 k hk with ⟨q, d, _, q2, q3, q4⟩ | h
      · exact .inl ⟨q, d, q2, q3, q4⟩
      · exact .inr h

/-- A call that takes known blocks, and makes others of them. -/
theorem HOk.of_take {P : Program} {f : FuncId} {hd : Handler} (he : Enters P f) (h : ∀ rs args H K, hd rs args H K → ∃ (is : List Nat) (Hin : HH) (args' : List AV) (R : AV → HH → Prop), is.Nodup ∧ LeBs (pickH H is) Hin ∧ denL args' = denL args ∧ LC P f args' Hin R ∧ ∀ z H', R z H' → ∃ z' N, z'.den = z.den ∧ LeH H' N ∧ K (.ret z') (holes H is ++ N)) : HOk P f hd := by
  refine ⟨he, fun rs _ args H K w hw hk => ?_⟩
  obtain ⟨is, Hin, args', R, hn, h1, h3, h4, h5⟩ := h rs args H K hk
  rw [← h3]
  refine (h4.calls w ((leAt is hn h1).holds w hw)).mono fun e w' hq => ?_
  obtain ⟨r, H', rfl, hr, hx⟩ := hq
  obtain ⟨z', N, g1, g2, g4⟩ := h5 r H' hr
  exact ⟨z', holes H is ++ N, by rw [g1], g4, Ext.take hw h1 hx g2⟩

/-- A call that only reads; what it reads is told as the world shows it. -/
theorem HOk.of_look {P : Program} {f : FuncId} {hd : Handler} (he : Enters P f) (h : ∀ rs args H K, hd rs args H K → ∃ z : AV, K (.ret z) H ∧ ∀ w, HoldsH H w → ∃ (Hin : HH) (args' : List AV), HoldsH Hin w ∧ ownNums Hin = [] ∧ denL args' = denL args ∧ LC P f args' Hin (fun r _ => r.den = z.den)) : HOk P f hd := by
  refine ⟨he, fun rs _ args H K w hw hk => ?_⟩
  obtain ⟨z, h5, h⟩ := h rs args H K hk
  obtain ⟨Hin, args', h1, h2, h3, h4⟩ := h w hw
  rw [← h3]
  refine (h4.calls w h1).mono fun e w' hq => ?_
  obtain ⟨r, H', rfl, hr, hx⟩ := hq
  have fr : Frm [] w w' := by have := hx.fr; rw [h2] at this; exact this
  exact ⟨z, H, by rw [hr], h5, ((HeapOk.enter hw).pure fr).toExt⟩
end Go.Eng

