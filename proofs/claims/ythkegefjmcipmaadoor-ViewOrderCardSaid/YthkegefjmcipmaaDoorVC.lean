/- View: columns as a parcel. -/
import Derived.Test.YthkegefjmcipmaaDoorVA
namespace Go.Sp
open Go.Eng Go.Proofs.YthkegefjmcipmaaDoor
def ptrD : DT Nat := ⟨fun n => [.v (.pointer (some ⟨n, 0, none⟩))], fun l => match l with | [.ptr _ n 0] => some n | _ => none, 0, 1⟩

/-- A column: where it lies, and its map; its letters, its width, what stands in it. -/
structure CD where
  num : Nat
  mnum : Nat
  letters : ByteArray
  width : Int
  es : List ((Int × Dw) × Nat)
  clock : Nat

end Go.Sp
namespace Go.Eng
open Go Go.Sp Go.Proofs.YthkegefjmcipmaaDoor

theorem ptrD_ok : ptrD.Ok where
  len _ := rfl
  dec xs a h := by
    simp only [ptrD] at h ⊢
    split at h
    · cases h; rfl
    · cases h
  one _ := rfl

def kyC (a : Int × Dw) : AV := .v (.int .i64 a.1)
def vlC (a : Int × Dw) : AV := .agg (dwD.enc a.2)
def mkC (k v : AV) : Option (Int × Dw) :=
  match k, v with
  | .v (.int .i64 r), .agg [.v (.int .i64 r'), .v (.int .i64 c), .v (.string t), .v (.int .i64 n)] => some (r, ⟨r', c, t, n⟩)
  | _, _ => none
theorem mkC_eq {k v : AV} {a : Int × Dw} (h : mkC k v = some a) : kyC a = k ∧ vlC a = v := by
  unfold mkC at h
  split at h
  · cases h; exact ⟨rfl, rfl⟩
  · cases h

abbrev cdS (c : CD) : Blk := ⟨c.num, .cells [.v (.string c.letters), .v (.int .i64 c.width), .v (.map (some c.mnum))] 63, true⟩
abbrev cdM (c : CD) : Blk := ⟨c.mnum, .mape (Int × Dw) kyC vlC mkC c.es c.clock, true⟩
def colsH (cs : List CD) : HH := cs.flatMap fun c => [cdS c, cdM c]
/-- Columns in memory, in any order. -/
def colsC (cs : List CD) (H0 : HH) : Prop := H0.Perm (colsH cs)

theorem colsC_own (cs : List CD) (H0 : HH) (h : colsC cs H0) : allOwn H0 := fun b hb => by
  have := h.mem_iff.1 hb
  obtain ⟨c, _, hc⟩ := List.mem_flatMap.1 this
  simp at hc
  rcases hc with rfl | rfl <;> rfl

abbrev colsB (cs : List CD) (S : List Nat) : Blk := packB colsC 0 cs S

theorem colsH_perm {cs cs' : List CD} (h : cs.Perm cs') : (colsH cs).Perm (colsH cs') := h.flatMap_right _

/-- The order in which blocks are known does not matter. -/
theorem HoldsH.perm {H H' : HH} {w : World} (hp : H.Perm H') (h : HoldsH H w) : HoldsH H' w := by
  have h1 : H.Pairwise (fun b c => ∀ k ∈ b.nums, k ∉ c.nums) := by
    rw [List.pairwise_iff_getElem]
    intro i j hi hj hij
    exact h.apart i j _ _ (List.getElem?_eq_getElem hi) (List.getElem?_eq_getElem hj) (by omega)
  have h2 := (hp.pairwise_iff (fun {b c} hbc k hk hk2 => hbc k hk2 hk)).1 h1
  refine ⟨fun i b hi => ?_, fun i j b c hi hj hij k hk hk2 => ?_⟩
  · have := hp.mem_iff.2 (List.mem_of_getElem? hi)
    obtain ⟨q, hq⟩ := List.getElem?_of_mem this
    exact h.all q b hq
  · obtain ⟨hi', rfl⟩ := List.getElem?_eq_some_iff.1 hi
    obtain ⟨hj', rfl⟩ := List.getElem?_eq_some_iff.1 hj
    rw [List.pairwise_iff_getElem] at h2
    rcases Nat.lt_or_gt_of_ne hij with h3 | h3
    · exact h2 i j hi' hj' h3 k hk hk2
    · exact h2 j i hj' hi' h3 k hk2 hk
theorem To.perm {H H' : HH} {w : World} (hp : H.Perm H') (h : HoldsH H w) : To H H' w :=
  ⟨h.perm hp, fun i b hi k hk => by
    obtain ⟨q, hq⟩ := List.getElem?_of_mem (hp.mem_iff.2 (List.mem_of_getElem? hi))
    exact ⟨q, b, hq, hk, fun h => h⟩⟩

/-- One column comes into sight. -/
theorem cols_open {cs rest : List CD} {c : CD} {S : List Nat} {Hr : HH} {w : World} (hp : cs.Perm (c :: rest)) (hw : HoldsH (colsB cs S :: Hr) w) : ∃ Sr, To (colsB cs S :: Hr) (colsB rest Sr :: (Hr ++ [cdS c, cdM c])) w := by
  obtain ⟨H0, g1, g2, g3, g4⟩ := To.unpack hw
  have p1 : (H0 ++ Hr).Perm (colsH rest ++ (Hr ++ [cdS c, cdM c])) := by
    have e : colsH (c :: rest) = [cdS c, cdM c] ++ colsH rest := by simp [colsH]
    have p : H0.Perm ([cdS c, cdM c] ++ colsH rest) := by rw [← e]; exact g1.trans (colsH_perm hp)
    refine (p.append_right Hr).trans ?_
    rw [List.append_assoc, ← List.append_assoc (colsH rest)]
    exact List.perm_append_comm
  have t1 := To.perm p1 g4.hp
  have t2 := To.pack (Hr := Hr ++ [cdS c, cdM c]) 0 (C := colsC) (List.Perm.refl (colsH rest)) (colsC_own _ _ (List.Perm.refl _)) t1.hp
  exact ⟨_, (g4.trans t1).trans t2⟩

/-- One column goes out of sight. -/
theorem cols_close {cs rest : List CD} {c : CD} {Sr : List Nat} {Hr : HH} {w : World} (hp : (c :: rest).Perm cs) (hw : HoldsH (colsB rest Sr :: (Hr ++ [cdS c, cdM c])) w) : ∃ S, To (colsB rest Sr :: (Hr ++ [cdS c, cdM c])) (colsB cs S :: Hr) w := by
  obtain ⟨H0, g1, g2, g3, g4⟩ := To.unpack hw
  have p1 : (H0 ++ (Hr ++ [cdS c, cdM c])).Perm (colsH cs ++ Hr) := by
    have e : colsH (c :: rest) = [cdS c, cdM c] ++ colsH rest := by simp [colsH]
    have p : ([cdS c, cdM c] ++ H0).Perm (colsH cs) := by
      refine (List.Perm.append_left _ g1).trans ?_
      rw [← e]; exact colsH_perm hp
    refine List.Perm.trans ?_ (p.append_right Hr)
    rw [← List.append_assoc, List.append_assoc [cdS c, cdM c]]
    exact List.perm_append_comm
  have t1 := To.perm p1 g4.hp
  have t2 := To.pack (Hr := Hr) 0 (C := colsC) (List.Perm.refl (colsH cs)) (colsC_own _ _ (List.Perm.refl _)) t1.hp
  exact ⟨_, (g4.trans t1).trans t2⟩

theorem colsB_nil (w : World) : (colsB [] []).c.holds w (colsB [] []).num := pack_close (C := colsC) (H0 := []) (List.Perm.refl _) (fun b hb => (by cases hb)) (holds_nil w)

theorem born_uniq {α : Type} : ∀ {es : List (α × Nat)}, (es.map (·.2)).Nodup → ∀ {a a' : α} {b : Nat}, (a, b) ∈ es → (a', b) ∈ es → a = a'
  | [], _, _, _, _, h, _ => by cases h
  | e :: es, hn, a, a', b, h, h' => by
    rw [List.map_cons, List.nodup_cons] at hn
    rcases List.mem_cons.1 h with h1 | h1 <;> rcases List.mem_cons.1 h' with h2 | h2
    · rw [← h1] at h2; exact (Prod.mk.inj h2).1.symm
    · rw [← h1] at hn; exact absurd (List.mem_map.2 ⟨(a', b), h2, rfl⟩) hn.1
    · rw [← h2] at hn; exact absurd (List.mem_map.2 ⟨(a, b), h1, rfl⟩) hn.1
    · exact born_uniq hn.2 h1 h2

/-- What stands in a column, of the things so far. -/
structure entsOk (p : List Dw) (t b c : Int) (es : List ((Int × Dw) × Nat)) (clock : Nat) : Prop where
  val : ∀ a q, (a, q) ∈ es → a.2 = atD p a.1 c ∧ t ≤ a.1 ∧ a.1 ≤ b
  all : ∀ d ∈ p, d.col = c → t ≤ d.row → d.row ≤ b → ∃ a q, (a, q) ∈ es ∧ a.1 = d.row
  key : ∀ a q a' q', (a, q) ∈ es → (a', q') ∈ es → a.1 = a'.1 → q = q'
  born : (es.map (·.2)).Nodup
  clk : ∀ a q, (a, q) ∈ es → q < clock

theorem entsOk.nil (t b c : Int) : entsOk [] t b c [] 0 := ⟨fun a q h => (by cases h), fun d h => (by cases h), fun a q a' q' h => (by cases h), List.nodup_nil, fun a q h => (by cases h)⟩

/-- Another thing, elsewhere. -/
theorem entsOk.skip {p : List Dw} {d : Dw} {t b c : Int} {es : List ((Int × Dw) × Nat)} {clock : Nat} (h : entsOk p t b c es clock) (hd : ¬ (d.col = c ∧ t ≤ d.row ∧ d.row ≤ b)) : entsOk (p ++ [d]) t b c es clock := by
  refine ⟨fun a q ha => ?_, fun d' hd' h1 h2 h3 => ?_, h.key, h.born, h.clk⟩
  · obtain ⟨g1, g2, g3⟩ := h.val a q ha
    refine ⟨?_, g2, g3⟩
    rw [atD_app, if_neg (fun e => hd ⟨e.2, by omega, by omega⟩)]
    exact g1
  · rcases List.mem_append.1 hd' with h4 | h4
    · exact h.all d' h4 h1 h2 h3
    · cases List.mem_singleton.1 h4
      exact absurd ⟨h1, h2, h3⟩ hd

/-- A thing in the place of one. -/
theorem entsOk.set {p : List Dw} {d : Dw} {t b c : Int} {es : List ((Int × Dw) × Nat)} {clock : Nat} (h : entsOk p t b c es clock) (h1 : d.col = c) (h2 : t ≤ d.row) (h3 : d.row ≤ b) {a0 : Int × Dw} {q0 : Nat} (h4 : (a0, q0) ∈ es) (h5 : a0.1 = d.row) : entsOk (p ++ [d]) t b c (setE es q0 (d.row, d)) clock := by
  have hm : ∀ {a : Int × Dw} {q : Nat}, (a, q) ∈ setE es q0 (d.row, d) → (q = q0 ∧ a = (d.row, d)) ∨ (q ≠ q0 ∧ (a, q) ∈ es) := fun {a q} ha => by
    obtain ⟨e, he, h⟩ := List.mem_map.1 (show (a, q) ∈ List.map _ _ from ha)
    split at h
    · cases h; exact .inl ⟨rfl, rfl⟩
    · subst h; exact .inr ⟨by assumption, he⟩
  refine ⟨fun a q ha => ?_, fun d' hd' g1 g2 g3 => ?_, fun a q a' q' ha ha' e => ?_, by rw [setE_born]; exact h.born, fun a q ha => ?_⟩
  · rcases hm ha with ⟨rfl, rfl⟩ | ⟨hq, ha⟩
    · exact ⟨by rw [atD_app, if_pos ⟨rfl, h1⟩], h2, h3⟩
    · obtain ⟨g1, g2, g3⟩ := h.val a q ha
      refine ⟨?_, g2, g3⟩
      rw [atD_app, if_neg (fun e => hq (h.key _ _ _ _ ha h4 (by rw [h5]; exact e.1.symm)))]
      exact g1
  · rcases List.mem_append.1 hd' with g4 | g4
    · obtain ⟨a, q, ha, e⟩ := h.all d' g4 g1 g2 g3
      by_cases hq : q = q0
      · subst hq
        refine ⟨(d.row, d), q, List.mem_map.2 ⟨(a0, q), h4, by simp⟩, ?_⟩
        rw [← e]
        have := born_uniq h.born ha h4
        rw [this]; exact h5.symm
      · exact ⟨a, q, List.mem_map.2 ⟨(a, q), ha, by simp [hq]⟩, e⟩
    · cases List.mem_singleton.1 g4
      exact ⟨(d.row, d), q0, List.mem_map.2 ⟨(a0, q0), h4, by simp⟩, rfl⟩
  · rcases hm ha with ⟨e1, e2⟩ | ⟨hq, m1⟩ <;> rcases hm ha' with ⟨e3, e4⟩ | ⟨hq', m2⟩
    · rw [e1, e3]
    · rw [e1]; exact h.key _ _ _ _ h4 m2 (by rw [h5, ← e, e2])
    · rw [e3]; exact h.key _ _ _ _ m1 h4 (by rw [h5, e, e4])
    · exact h.key _ _ _ _ m1 m2 e
  · rcases hm ha with ⟨rfl, rfl⟩ | ⟨hq, ha⟩
    · exact h.clk _ _ h4
    · exact h.clk _ _ ha

/-- A thing where none was. -/
theorem entsOk.add {p : List Dw} {d : Dw} {t b c : Int} {es : List ((Int × Dw) × Nat)} {clock : Nat} (h : entsOk p t b c es clock) (h1 : d.col = c) (h2 : t ≤ d.row) (h3 : d.row ≤ b) (h4 : ∀ a q, (a, q) ∈ es → a.1 ≠ d.row) : entsOk (p ++ [d]) t b c (es ++ [((d.row, d), clock)]) (clock + 1) := by
  have hm : ∀ {a : Int × Dw} {q : Nat}, (a, q) ∈ es ++ [((d.row, d), clock)] → (a, q) ∈ es ∨ (a = (d.row, d) ∧ q = clock) := fun {a q} ha => by
    rcases List.mem_append.1 ha with ha | ha
    · exact .inl ha
    · cases List.mem_singleton.1 ha; exact .inr ⟨rfl, rfl⟩
  refine ⟨fun a q ha => ?_, fun d' hd' g1 g2 g3 => ?_, fun a q a' q' ha ha' e => ?_, ?_, fun a q ha => ?_⟩
  · rcases hm ha with ha | ⟨rfl, rfl⟩
    · obtain ⟨g1, g2, g3⟩ := h.val a q ha
      refine ⟨?_, g2, g3⟩
      rw [atD_app, if_neg (fun e => h4 a q ha e.1.symm)]
      exact g1
    · exact ⟨by rw [atD_app, if_pos ⟨rfl, h1⟩], h2, h3⟩
  · rcases List.mem_append.1 hd' with g4 | g4
    · obtain ⟨a, q, ha, e⟩ := h.all d' g4 g1 g2 g3
      exact ⟨a, q, List.mem_append_left _ ha, e⟩
    · cases List.mem_singleton.1 g4
      exact ⟨(d.row, d), clock, List.mem_append_right _ (List.mem_singleton.2 rfl), rfl⟩
  · rcases hm ha with m1 | ⟨e1, e2⟩ <;> rcases hm ha' with m2 | ⟨e3, e4⟩
    · exact h.key _ _ _ _ m1 m2 e
    · exact absurd (by rw [e, e3]) (h4 _ _ m1)
    · exact absurd (by rw [← e, e1]) (h4 _ _ m2)
    · rw [e2, e4]
  · rw [List.map_append, List.nodup_append]
    refine ⟨h.born, by simp, fun x hx y hy => ?_⟩
    obtain ⟨e, he, rfl⟩ := List.mem_map.1 hx
    cases List.mem_singleton.1 hy
    have := h.clk e.1 e.2 he
    show e.2 ≠ clock
    omega
  · rcases hm ha with ha | ⟨rfl, rfl⟩
    · have := h.clk _ _ ha; omega
    · omega

end Go.Eng

