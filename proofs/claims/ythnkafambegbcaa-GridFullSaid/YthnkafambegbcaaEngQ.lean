import Derived.Test.YthnkafambegbcaaEngG
set_option linter.unusedSimpArgs false
set_option linter.unusedVariables false
namespace Go.Eng
open Go Go.Sp
def keepT : List Nat → TT → TT
  | [], _ => []
  | k :: ks, T =>
    match T.get k with
    | some v => (k, v) :: keepT ks T
    | none => keepT ks T
def numsAll (H : HH) : List Nat := H.flatMap Blk.nums
theorem numsAll_mem {H : HH} {k : Nat} : k ∈ numsAll H ↔ ∃ (i : Nat) (b : Blk), H[i]? = some b ∧ k ∈ b.nums := by
  simp only [numsAll, List.mem_flatMap]
  constructor
  · rintro ⟨b, hb, hk⟩
    obtain ⟨i, hi⟩ := List.getElem?_of_mem hb
    exact ⟨i, b, hi, hk⟩
  · rintro ⟨i, b, hi, hk⟩
    exact ⟨b, List.mem_of_getElem? hi, hk⟩
theorem HoldsH.lt {H : HH} {w : World} (h : HoldsH H w) : ∀ k ∈ numsAll H, k < w.heap.size := fun k hk => by
  obtain ⟨i, b, hi, hk⟩ := numsAll_mem.1 hk
  exact Cont.holds_lt (h.all i b hi) k hk
theorem HoldsH.same {H : HH} {w w' : World} (h : HoldsH H w) (hs : ∀ k ∈ numsAll H, w'.heap[k]? = w.heap[k]?) : HoldsH H w' :=
  ⟨fun i b hi => Cont.holds_block (h.all i b hi) (fun k hk => hs k (numsAll_mem.2 ⟨i, b, hi, hk⟩)), h.apart⟩
theorem part_of_mem {w w' : World} {S : List Nat} (h : part_ w S = part_ w' S) : ∀ k ∈ S, w.heap[k]? = w'.heap[k]? := fun k hk => by
  have := congrFun h k
  simpa [part_, hk] using this
def allOwn (H : HH) : Prop := ∀ b ∈ H, b.own = true
def packI {α : Type} (C : α → HH → Prop) (p : α × List Nat) (h : Nat → Option Obj) : Prop :=
  ∃ (H0 : HH) (w : World), C p.1 H0 ∧ allOwn H0 ∧ numsAll H0 = p.2 ∧ HoldsH H0 w ∧ h = part_ w p.2
def packC {α : Type} (C : α → HH → Prop) (x : α) (S : List Nat) : Cont := .res (α × List Nat) (x, S) (·.2) (packI C)
abbrev packB {α : Type} (C : α → HH → Prop) (n : Nat) (x : α) (S : List Nat) : Blk := ⟨n, packC C x S, true⟩
theorem pack_open {α : Type} {C : α → HH → Prop} {x : α} {S : List Nat} {n : Nat} {w : World} (h : (packC C x S).holds w n) : ∃ H0 : HH, C x H0 ∧ allOwn H0 ∧ numsAll H0 = S ∧ HoldsH H0 w := by
  obtain ⟨_, H0, w0, h1, h2, h3, h4, h5⟩ := h
  refine ⟨H0, h1, h2, h3, h4.same fun k hk => ?_⟩
  exact part_of_mem h5 k (show k ∈ (x, S).2 from h3 ▸ hk)
theorem pack_close {α : Type} {C : α → HH → Prop} {x : α} {n : Nat} {w : World} {H0 : HH} (h1 : C x H0) (h2 : allOwn H0) (h3 : HoldsH H0 w) : (packC C x (numsAll H0)).holds w n :=
  ⟨h3.lt, H0, w, h1, h2, rfl, h3, rfl⟩
theorem To.own {H H' : HH} {w : World} (h : To H H' w) {k : Nat} (hk : k ∈ ownNums H') : k ∈ ownNums H := by
  obtain ⟨i, b, hi, ho, hb⟩ := mem_ownNums hk
  obtain ⟨j, d, hj, hd, hdo⟩ := h.src i b hi k hb
  exact ownNums_mem (hdo ho) hd hj
theorem Ext.of_to {H H0 H' : HH} {w w' : World} (h : To H H0 w) (e : Ext H0 H' w w') : Ext H H' w w' :=
  ⟨e.hp, ⟨e.fr.os, e.fr.tape, e.fr.output, e.fr.size, fun k hk hf => e.fr.block k hk (fun hm => hf (h.own hm)), e.fr.dr⟩, fun i b hi k hk => by
    rcases e.src i b hi k hk with ⟨j, d, hj, hd, ho⟩ | hx
    · obtain ⟨m, x, hm, hx, hxo⟩ := h.src j d hj k hd
      exact .inl ⟨m, x, hm, hx, fun o => hxo (ho o)⟩
    · exact .inr hx⟩
theorem Ext.le {H H' H'' : HH} {w w' : World} (e : Ext H H' w w') (h : LeH H' H'') : Ext H H'' w w' := ⟨h.holds _ e.hp, e.fr, Whence.le e.src h⟩
theorem Ext.to {H H' H'' : HH} {w w' : World} (e : Ext H H' w w') (h : To H' H'' w') : Ext H H'' w w' :=
  ⟨h.hp, e.fr, fun i b hi k hk => by
    obtain ⟨j, d, hj, hd, ho⟩ := h.src i b hi k hk
    rcases e.src j d hj k hd with ⟨m, x, hm, hx, hxo⟩ | hx
    · exact .inl ⟨m, x, hm, hx, fun o => hxo (ho o)⟩
    · exact .inr hx⟩
theorem LC.of_open {P : Program} {f : FuncId} {args : List AV} {Hin : HH} {R : AV → HH → Prop} (he : Enters P f)
    (h : ∀ w, HoldsH Hin w → ∃ (H0 : HH) (args0 : List AV) (R0 : AV → HH → Prop), To Hin H0 w ∧ denL args0 = denL args ∧ LC P f args0 H0 R0 ∧ ∀ r H' w', R0 r H' → HoldsH H' w' → ∃ (r' : AV) (H'' : HH), r'.den = r.den ∧ R r' H'' ∧ To H' H'' w') : LC P f args Hin R := by
  refine ⟨he, fun w hw => ?_⟩
  obtain ⟨H0, args0, R0, ho, hd, hlc, hk⟩ := h w hw
  rw [← hd]
  refine (hlc.calls w ho.hp).mono fun e w' hq => ?_
  obtain ⟨r, H', rfl, hr, hx⟩ := hq
  obtain ⟨r', H'', e1, h2, h3⟩ := hk r H' w' hr hx.hp
  exact ⟨r', H'', by rw [e1], h2, (Ext.of_to ho hx).to h3⟩
theorem LC.mono {P : Program} {f : FuncId} {args : List AV} {Hin : HH} {R R' : AV → HH → Prop} (h : LC P f args Hin R) (hr : ∀ r H', R r H' → R' r H') : LC P f args Hin R' :=
  ⟨h.enters, fun w hw => (h.calls w hw).mono fun e w' hq => by
    obtain ⟨r, H', e1, h2, h3⟩ := hq
    exact ⟨r, H', e1, hr r H' h2, h3⟩⟩
theorem HoldsH.append {H H' : HH} {w : World} (h : HoldsH (H ++ H') w) : HoldsH H w ∧ HoldsH H' w ∧ ∀ k ∈ numsAll H, k ∉ numsAll H' := by
  refine ⟨⟨fun i b hi => h.all i b ?_, fun i j b c hi hj hij => h.apart i j b c ?_ ?_ hij⟩, ⟨fun i b hi => h.all (H.length + i) b ?_, fun i j b c hi hj hij => h.apart (H.length + i) (H.length + j) b c ?_ ?_ (by omega)⟩, fun k hk hk2 => ?_⟩
  · rw [List.getElem?_append_left (List.getElem?_eq_some_iff.1 hi).1]; exact hi
  · rw [List.getElem?_append_left (List.getElem?_eq_some_iff.1 hi).1]; exact hi
  · rw [List.getElem?_append_left (List.getElem?_eq_some_iff.1 hj).1]; exact hj
  · rw [List.getElem?_append_right (by omega)]; simpa using hi
  · rw [List.getElem?_append_right (by omega)]; simpa using hi
  · rw [List.getElem?_append_right (by omega)]; simpa using hj
  · obtain ⟨i, b, hi, hb⟩ := numsAll_mem.1 hk
    obtain ⟨j, c, hj, hc⟩ := numsAll_mem.1 hk2
    have hil := (List.getElem?_eq_some_iff.1 hi).1
    exact h.apart i (H.length + j) b c (by rw [List.getElem?_append_left hil]; exact hi) (by rw [List.getElem?_append_right (by omega)]; simpa using hj) (by omega) k hb hc
theorem HoldsH.join {H H' : HH} {w : World} (h : HoldsH H w) (h' : HoldsH H' w) (ha : ∀ k ∈ numsAll H, k ∉ numsAll H') : HoldsH (H ++ H') w := by
  have cases_ : ∀ (i : Nat) (b : Blk), (H ++ H')[i]? = some b → (i < H.length ∧ H[i]? = some b) ∨ (H.length ≤ i ∧ H'[i - H.length]? = some b) := by
    intro i b hi
    rw [List.getElem?_append] at hi
    split at hi
    · rename_i hl; exact .inl ⟨hl, hi⟩
    · exact .inr ⟨by omega, hi⟩
  refine ⟨fun i b hi => ?_, fun i j b c hi hj hij k hk hk2 => ?_⟩
  · rcases cases_ i b hi with ⟨_, h1⟩ | ⟨_, h1⟩
    · exact h.all i b h1
    · exact h'.all _ b h1
  · rcases cases_ i b hi with ⟨l1, h1⟩ | ⟨l1, h1⟩ <;> rcases cases_ j c hj with ⟨l2, h2⟩ | ⟨l2, h2⟩
    · exact h.apart i j b c h1 h2 hij k hk hk2
    · exact ha k (numsAll_mem.2 ⟨_, _, h1, hk⟩) (numsAll_mem.2 ⟨_, _, h2, hk2⟩)
    · exact ha k (numsAll_mem.2 ⟨_, _, h2, hk2⟩) (numsAll_mem.2 ⟨_, _, h1, hk⟩)
    · exact h'.apart _ _ b c h1 h2 (by omega) k hk hk2
theorem holds_nil (w : World) : HoldsH [] w := ⟨fun i b hi => by simp at hi, fun i j b c hi => by simp at hi⟩
theorem holds_one {b : Blk} {w : World} (h : b.c.holds w b.num) : HoldsH [b] w := ⟨fun i c hi => by
    cases i with
    | zero => simp at hi; subst hi; exact h
    | succ i => simp at hi, fun i j c d hi hj hij => by
    cases i with
    | zero => (cases j with
      | zero => exact absurd rfl hij
      | succ j => simp at hj)
    | succ i => simp at hi⟩
theorem To.pack {α : Type} {C : α → HH → Prop} {x : α} {H0 Hr : HH} {w : World} (n : Nat) (h1 : C x H0) (h2 : allOwn H0) (h : HoldsH (H0 ++ Hr) w) : To (H0 ++ Hr) (packB C n x (numsAll H0) :: Hr) w := by
  obtain ⟨g1, g2, g3⟩ := h.append
  refine ⟨?_, fun i b hi k hk => ?_⟩
  · exact HoldsH.join (H := [packB C n x (numsAll H0)]) (holds_one (pack_close h1 h2 g1)) g2 (fun k hk => g3 k (by simpa [numsAll, Blk.nums, Cont.nums, packC] using hk))
  · cases i with
    | zero =>
      simp at hi; subst hi
      have hk : k ∈ numsAll H0 := hk
      obtain ⟨j, d, hj, hd⟩ := numsAll_mem.1 hk
      exact ⟨j, d, by rw [List.getElem?_append_left (List.getElem?_eq_some_iff.1 hj).1]; exact hj, hd, fun _ => h2 d (List.mem_of_getElem? hj)⟩
    | succ i =>
      simp only [List.getElem?_cons_succ] at hi
      exact ⟨H0.length + i, b, by rw [List.getElem?_append_right (by omega)]; simpa using hi, hk, id⟩
theorem To.unpack {α : Type} {C : α → HH → Prop} {x : α} {S : List Nat} {n : Nat} {Hr : HH} {w : World} (h : HoldsH (packB C n x S :: Hr) w) : ∃ H0, C x H0 ∧ allOwn H0 ∧ numsAll H0 = S ∧ To (packB C n x S :: Hr) (H0 ++ Hr) w := by
  obtain ⟨g1, g2, g3⟩ := HoldsH.append (H := [packB C n x S]) h
  obtain ⟨H0, h1, h2, h3, h4⟩ := pack_open (g1.all 0 _ rfl)
  refine ⟨H0, h1, h2, h3, h4.join g2 (fun k hk => g3 k ?_), fun i b hi k hk => ?_⟩
  · have : numsAll [packB C n x S] = S := by simp [numsAll, Blk.nums, Cont.nums, packC]
    rw [this, ← h3]; exact hk
  · rw [List.getElem?_append] at hi
    split at hi
    · refine ⟨0, _, rfl, ?_, fun _ => rfl⟩
      have hk : k ∈ numsAll H0 := numsAll_mem.2 ⟨i, b, hi, hk⟩
      rw [h3] at hk
      exact hk
    · exact ⟨(i - H0.length) + 1, b, by simpa using hi, hk, id⟩
end Go.Eng
