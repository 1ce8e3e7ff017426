/- View: joined pieces: what they are. -/
import Derived.Test.YthkegefjmcipmaaDoorJA
namespace Go.Eng
open Go Go.Sp Go.Proofs.YthkegefjmcipmaaDoor

theorem HoldsH.ro {A : HH} {w : World} (h : HoldsH A w) : HoldsH (A.map ro) w := by
  refine ⟨fun i b hi => ?_, fun i j b c hi hj hij k hk hk2 => ?_⟩
  · rw [List.getElem?_map] at hi
    obtain ⟨d, hd, rfl⟩ := Option.map_eq_some_iff.1 hi
    exact h.all i d hd
  · rw [List.getElem?_map] at hi hj
    obtain ⟨d, hd, rfl⟩ := Option.map_eq_some_iff.1 hi
    obtain ⟨e, he, rfl⟩ := Option.map_eq_some_iff.1 hj
    exact h.apart i j d e hd he hij k hk hk2
theorem HoldsH.unro {A : HH} {w : World} (h : HoldsH (A.map Go.Eng.ro) w) : HoldsH A w := by
  refine ⟨fun i b hi => ?_, fun i j b c hi hj hij k hk hk2 => ?_⟩
  · exact h.all i (Go.Eng.ro b) (by rw [List.getElem?_map, hi]; rfl)
  · exact h.apart i j (Go.Eng.ro b) (Go.Eng.ro c) (by rw [List.getElem?_map, hi]; rfl) (by rw [List.getElem?_map, hj]; rfl) hij k hk hk2

/-- What is only read may be looked at anew, beside other blocks. -/
theorem To.roFrame {A A' Hr : HH} {w : World} (h : To A A' w) (hw : HoldsH (A.map ro ++ Hr) w) : To (A.map ro ++ Hr) (A'.map ro ++ Hr) w := by
  obtain ⟨g1, g2, g3⟩ := hw.append
  have src : ∀ (i : Nat) (b : Blk), (A'.map ro)[i]? = some b → ∀ k ∈ b.nums, ∃ (j : Nat) (c : Blk), (A.map ro)[j]? = some c ∧ k ∈ c.nums ∧ b.own = false := fun i b hi k hk => by
    rw [List.getElem?_map] at hi
    obtain ⟨d, hd, rfl⟩ := Option.map_eq_some_iff.1 hi
    obtain ⟨j, c, h1, h2, _⟩ := h.src i d hd k hk
    exact ⟨j, ro c, by rw [List.getElem?_map, h1]; rfl, h2, rfl⟩
  refine ⟨h.hp.ro.join g2 fun k hk => g3 k ?_, fun i b hi k hk => ?_⟩
  · obtain ⟨i, b, hi, hb⟩ := numsAll_mem.1 hk
    obtain ⟨j, c, h1, h2, _⟩ := src i b hi k hb
    exact numsAll_mem.2 ⟨j, c, h1, h2⟩
  · rw [List.getElem?_append] at hi
    split at hi
    · obtain ⟨j, c, h1, h2, h3⟩ := src i b hi k hk
      exact ⟨j, c, by rw [List.getElem?_append_left (List.getElem?_eq_some_iff.1 h1).1]; exact h1, h2, fun h => by rw [h3] at h; cases h⟩
    · exact ⟨(A.map ro).length + (i - (A'.map ro).length), b, by rw [List.getElem?_append_right (by omega)]; simpa using hi, hk, id⟩

theorem To.next {H H1 H2 : HH} {w : World} (t : To H H1 w) (l : LeH H1 H2) : To H H2 w := t.trans (l.to t.hp)

theorem ro_self {b : Blk} (h : b.own = false) : ro b = b := by
  cases b; cases h; rfl

theorem ro_open {b0 b1 : Blk} {ln : Nat} {Sl : List Nat} {cs : List CD} {f : Nat} {c : CD} {S : List Nat} {H : HH} (Hr : HH) {w : World} (hc : cs[f]? = some c) (hw : HoldsH H w)
    (hl : LeH H (b0 :: b1 :: ⟨ln, .dl Nat ptrD 0 (cs.map CD.num) Sl none none, false⟩ :: ro (colsB cs S) :: Hr)) (h0 : b0.own = false) (h1 : b1.own = false) :
    ∃ Sr, To H (b0 :: b1 :: ⟨ln, .dl Nat ptrD 0 (cs.map CD.num) Sl none (some (f, [.ptr 4 c.num 0])), false⟩ :: ro (colsB (cs.eraseIdx f) Sr) :: ro (cdF c) :: ro (cdM c) :: Hr) w := by
  have t0 := hl.to hw
  have e : (clH b0 b1 ln Sl none cs S).map ro ++ Hr = b0 :: b1 :: ⟨ln, .dl Nat ptrD 0 (cs.map CD.num) Sl none none, false⟩ :: ro (colsB cs S) :: Hr := by
    simp only [clH, List.map_cons, List.map_nil, List.cons_append, List.nil_append, ro_self h0, ro_self h1]
  rw [← e] at t0
  obtain ⟨Sr, t1⟩ := cl_open hc (HoldsH.unro t0.hp.append.1)
  have t2 := t0.trans (t1.roFrame t0.hp)
  have e2 : (fcH b0 b1 ln Sl none cs f c Sr).map ro ++ Hr = b0 :: b1 :: ⟨ln, .dl Nat ptrD 0 (cs.map CD.num) Sl none (some (f, [.ptr 4 c.num 0])), false⟩ :: ro (colsB (cs.eraseIdx f) Sr) :: ro (cdF c) :: ro (cdM c) :: Hr := by
    simp only [fcH, List.map_cons, List.map_nil, List.cons_append, List.nil_append, ro_self h0, ro_self h1]
  rw [e2] at t2
  exact ⟨Sr, t2⟩

theorem ro_close {b0 b1 : Blk} {ln : Nat} {Sl : List Nat} {cs : List CD} {f : Nat} {c : CD} {foc : Option (Nat × List AV)} {Sr : List Nat} {H : HH} (Hr : HH) {w : World} (hc : cs[f]? = some c) (hw : HoldsH H w)
    (hl : LeH H (b0 :: b1 :: ⟨ln, .dl Nat ptrD 0 (cs.map CD.num) Sl none foc, false⟩ :: ro (colsB (cs.eraseIdx f) Sr) :: ro (cdS c) :: ro (cdM c) :: Hr)) (h0 : b0.own = false) (h1 : b1.own = false) :
    ∃ S, To H (b0 :: b1 :: ⟨ln, .dl Nat ptrD 0 (cs.map CD.num) Sl none none, false⟩ :: ro (colsB cs S) :: Hr) w := by
  have t0 := hl.to hw
  have e : ([b0, b1, lsB ln cs Sl none foc, colsB (cs.eraseIdx f) Sr, cdS c, cdM c] : HH).map ro ++ Hr = b0 :: b1 :: ⟨ln, .dl Nat ptrD 0 (cs.map CD.num) Sl none foc, false⟩ :: ro (colsB (cs.eraseIdx f) Sr) :: ro (cdS c) :: ro (cdM c) :: Hr := by
    simp only [List.map_cons, List.map_nil, List.cons_append, List.nil_append, ro_self h0, ro_self h1]
  rw [← e] at t0
  obtain ⟨S, t1⟩ := fc_close (c1 := c) hc rfl (HoldsH.unro t0.hp.append.1) (LeH.refl _)
  have t2 := t0.trans (t1.roFrame t0.hp)
  have ex : cs.set f c = cs := by
    obtain ⟨h1, h2⟩ := List.getElem?_eq_some_iff.1 hc
    rw [← h2, List.set_getElem_self]
  rw [ex] at t2
  have e2 : (clH b0 b1 ln Sl none cs S).map ro ++ Hr = b0 :: b1 :: ⟨ln, .dl Nat ptrD 0 (cs.map CD.num) Sl none none, false⟩ :: ro (colsB cs S) :: Hr := by
    simp only [clH, List.map_cons, List.map_nil, List.cons_append, List.nil_append, ro_self h0, ro_self h1]
  rw [e2] at t2
  exact ⟨S, t2⟩

/-- What the pieces of columns must be. -/
structure pcsOk (sep first : ByteArray) (P : Nat → ByteArray) (m : Nat) (cs : List CD) : Prop where
  sep : sep.size = 1
  first : first.size ≤ 1048576
  few : m ≤ 1048576
  pos : 0 < m
  len : cs.length = m
  ltr : ∀ (i : Nat) (c : CD), cs[i]? = some c → c.letters.size ≤ 3
  wid : ∀ (i : Nat) (c : CD), cs[i]? = some c → 0 ≤ c.width ∧ c.width ≤ 63
  small : ∀ (i : Nat), i < m → (P i).size ≤ 63

theorem pcsOk.size {sep first : ByteArray} {P : Nat → ByteArray} {m : Nat} {cs : List CD} (h : pcsOk sep first P m cs) {i : Nat} (hi : i ≤ m) : (joinS sep first ((List.range i).map P)).size ≤ 1048576 + 64 * i := by
  have := joinS_size (sep := sep) (a := first) h.sep (ps := (List.range i).map P) (fun p hp => by
    obtain ⟨j, hj, rfl⟩ := List.mem_map.1 hp
    exact h.small j (by have := List.mem_range.1 hj; omega))
  rw [List.length_map, List.length_range] at this
  have := h.first
  omega

theorem join_next (sep first : ByteArray) (P : Nat → ByteArray) (i : Nat) : joinS sep first ((List.range (i + 1)).map P) = catS (catS (joinS sep first ((List.range i).map P)) sep) (P i) := by
  rw [List.range_succ, List.map_append]
  exact joinS_one ..

end Go.Eng
namespace Go.Proofs.YthkegefjmcipmaaDoor
open Go Go.Eng Go.Sp
set_option linter.unusedVariables false
set_option linter.unusedSimpArgs false

set_option maxHeartbeats 4000000 in
theorem jn1_lc (sep first : ByteArray) (b0 b1 ln m c : Nat) (a : Option Addr) (cs : List CD) (Sl Sc : List Nat) (P : Nat → ByteArray) (hp : pcsOk sep first P m cs) (hP : ∀ (i : Nat) (c : CD), cs[i]? = some c → P i = fitS c.letters c.width 3) :
    LC Tryd.prog 26 [.v (.string sep), .v (.string first), .fn (.func 48) [] [.ptr 0 b0 0, .ptr 1 b1 0]] [⟨b0, .cells [.os 2 a ln 0 0 1 m c] 53, false⟩, ⟨b1, .cells [.fn (.func 29) [] []] 64, false⟩, ⟨ln, .dl Nat ptrD 0 (cs.map CD.num) Sl none none, false⟩, ro (colsB cs Sc)]
      (fun z _ => z = .v (.string (joinS sep first ((List.range m).map P)))) :=
  jn1_vc sep first b0 b1 ln m c a cs Sl Sc P (by
    simp only [true_and, and_true, Int.toNat_natCast, Nat.zero_add, Nat.le_refl, List.set_cons_succ, List.set_cons_zero]
    intro n1 n2
    have q1 := hp.first
    have q2 := hp.few
    have q3 := hp.sep
    have qp := hp.pos
    refine ⟨ByteArray.mk #[], .inr rfl, (by show 0 + first.size ≤ _; omega), fun S' n5 => ⟨fun w hw => .inl ?_, fun x hx => ?_, fun x _ => ?_⟩⟩
    · obtain ⟨cc, hc⟩ : ∃ c, cs[0]? = some c := ⟨_, List.getElem?_eq_getElem (by rw [hp.len]; exact qp)⟩
      obtain ⟨Sr, t1⟩ := ro_open (Hr := [_, _, _]) hc hw (leAt [0, 1, 2, 3, 4, 5, 6] (by decide) ⟨LeB.refl _, LeB.refl _, LeB.refl _, LeB.refl _, LeB.refl _, LeB.refl _, LeB.refl _, trivial⟩) rfl rfl
      refine ⟨⟨0, cc, Sr, S'⟩, ⟨qp, hc⟩, rfl, t1.next (leAt [0, 1, 2, 3, 6, 7, 8, 4, 5] (by decide) ⟨LeB.refl _, LeB.refl _, LeB.dl_foc (fun h => h) (.inl rfl) rfl (by rw [num_at hc]; rfl), LeB.refl _, LeB.refl _, by rw [nil_cat]; exact LeB.refl _, LeB.refl _, LeB.cells rfl (fun h => h), LeB.refl _, trivial⟩)⟩
    · obtain ⟨x1, x2⟩ := hx
      have hi := hp.size (Nat.le_of_lt x1)
      have hl := hp.ltr _ _ x2
      have hw2 := hp.wid _ _ x2
      have hs := hp.small _ x1
      have hpi := hP _ _ x2
      refine br_intro (fun _ => ?_) (fun h => absurd (of_decide_eq_false h) (by omega))
      refine ⟨⟨by omega, by omega⟩, by rw [List.length_map, hp.len]; exact x1, ⟨by omega, by omega, by omega⟩, fun n8 => ⟨by omega, _, .inl ⟨_, rfl⟩, by omega, fun S1 => ⟨by omega, _, .inl ⟨_, rfl⟩, by rw [size_catS, ← hpi]; omega, fun S2 w hw => ?_⟩⟩⟩
      rw [← hpi] at hw ⊢
      obtain ⟨S3, t1⟩ := ro_close (Hr := [_, _, _]) x2 hw (leAt [0, 1, 2, 3, 7, 8, 4, 5, 6] (by decide) ⟨LeB.refl _, LeB.refl _, LeB.refl _, LeB.refl _, LeB.cells rfl (fun h => h), LeB.refl _, LeB.refl _, LeB.refl _, LeB.refl _, trivial⟩) rfl rfl
      have hj := join_next sep first P x.i
      by_cases hz : x.i + 1 < m
      · refine .inl ?_
        obtain ⟨cc, hc⟩ : ∃ c, cs[x.i + 1]? = some c := ⟨_, List.getElem?_eq_getElem (by rw [hp.len]; exact hz)⟩
        obtain ⟨Sr, t2⟩ := ro_open (Hr := [_, _, _]) hc t1.hp (LeH.refl _) rfl rfl
        refine ⟨⟨x.i + 1, cc, Sr, S2⟩, ⟨hz, hc⟩, by show m - (x.i + 1) < _; omega, by rw [w64 (by omega)]; rfl, (t1.trans t2).next (leAt [0, 1, 2, 3, 6, 7, 8, 4, 5] (by decide) ⟨LeB.refl _, LeB.refl _, LeB.dl_foc (fun h => h) (.inl rfl) rfl (by rw [num_at hc]; rfl), LeB.refl _, LeB.refl _, by rw [hj]; exact LeB.refl _, LeB.refl _, LeB.cells rfl (fun h => h), LeB.refl _, trivial⟩)⟩
      · have hm : x.i + 1 = m := by omega
        refine .inr ⟨⟨0, x.c, S3, S2⟩, by omega, by rw [w64 (by omega)]; simp only [AV.den]; congr 1; omega, ?_⟩
        have hj2 : joinS sep first ((List.range m).map P) = catS (catS (joinS sep first ((List.range x.i).map P)) sep) (P x.i) := by rw [← hm]; exact hj
        exact t1.next (leAt [0, 1, 2, 3, 4, 5, 6] (by decide) ⟨LeB.refl _, LeB.refl _, LeB.refl _, LeB.refl _, LeB.refl _, by rw [hj2]; exact LeB.refl _, LeB.refl _, trivial⟩)
    · exact br_intro (fun h => absurd (of_decide_eq_true h) (by omega)) (fun _ => ⟨_, .inl ⟨_, rfl⟩, fun _ => rfl⟩))

end Go.Proofs.YthkegefjmcipmaaDoor

namespace Go.Proofs.YthkegefjmcipmaaDoor
open Go Go.Eng Go.Sp
set_option linter.unusedVariables false
set_option linter.unusedSimpArgs false

set_option maxHeartbeats 4000000 in
theorem jn2_lc (sep first : ByteArray) (b0 b1 ln m c : Nat) (a : Option Addr) (cs : List CD) (Sl Sc : List Nat) (P : Nat → ByteArray) (hp : pcsOk sep first P m cs) (hP : ∀ (i : Nat) (c : CD), cs[i]? = some c → P i = many 45 c.width) :
    LC Tryd.prog 26 [.v (.string sep), .v (.string first), .fn (.func 48) [] [.ptr 0 b0 0, .ptr 1 b1 0]] [⟨b0, .cells [.os 2 a ln 0 0 1 m c] 53, false⟩, ⟨b1, .cells [.fn (.func 30) [] []] 64, false⟩, ⟨ln, .dl Nat ptrD 0 (cs.map CD.num) Sl none none, false⟩, ro (colsB cs Sc)]
      (fun z _ => z = .v (.string (joinS sep first ((List.range m).map P)))) :=
  jn2_vc sep first b0 b1 ln m c a cs Sl Sc P (by
    simp only [rep45, true_and, and_true, Int.toNat_natCast, Nat.zero_add, Nat.le_refl, List.set_cons_succ, List.set_cons_zero]
    intro n1 n2
    have q1 := hp.first
    have q2 := hp.few
    have q3 := hp.sep
    have qp := hp.pos
    refine ⟨ByteArray.mk #[], .inr rfl, (by show 0 + first.size ≤ _; omega), fun S' n5 => ⟨fun w hw => .inl ?_, fun x hx => ?_, fun x _ => ?_⟩⟩
    · obtain ⟨cc, hc⟩ : ∃ c, cs[0]? = some c := ⟨_, List.getElem?_eq_getElem (by rw [hp.len]; exact qp)⟩
      obtain ⟨Sr, t1⟩ := ro_open (Hr := [_, _, _]) hc hw (leAt [0, 1, 2, 3, 4, 5, 6] (by decide) ⟨LeB.refl _, LeB.refl _, LeB.refl _, LeB.refl _, LeB.refl _, LeB.refl _, LeB.refl _, trivial⟩) rfl rfl
      refine ⟨⟨0, cc, Sr, S'⟩, ⟨qp, hc⟩, rfl, t1.next (leAt [0, 1, 2, 3, 6, 7, 8, 4, 5] (by decide) ⟨LeB.refl _, LeB.refl _, LeB.dl_foc (fun h => h) (.inl rfl) rfl (by rw [num_at hc]; rfl), LeB.refl _, LeB.refl _, by rw [nil_cat]; exact LeB.refl _, LeB.refl _, LeB.cells rfl (fun h => h), LeB.refl _, trivial⟩)⟩
    · obtain ⟨x1, x2⟩ := hx
      have hi := hp.size (Nat.le_of_lt x1)
      have hl := hp.ltr _ _ x2
      have hw2 := hp.wid _ _ x2
      have hs := hp.small _ x1
      have hpi := hP _ _ x2
      refine br_intro (fun _ => ?_) (fun h => absurd (of_decide_eq_false h) (by omega))
      refine ⟨⟨by omega, by omega⟩, by rw [List.length_map, hp.len]; exact x1, ⟨hw2.1, by omega⟩, fun n8 => ⟨by omega, _, .inl ⟨_, rfl⟩, by omega, fun S1 => ⟨by omega, _, .inl ⟨_, rfl⟩, by rw [size_catS, ← hpi]; omega, fun S2 w hw => ?_⟩⟩⟩
      rw [← hpi] at hw ⊢
      obtain ⟨S3, t1⟩ := ro_close (Hr := [_, _, _]) x2 hw (leAt [0, 1, 2, 3, 7, 8, 4, 5, 6] (by decide) ⟨LeB.refl _, LeB.refl _, LeB.refl _, LeB.refl _, LeB.cells rfl (fun h => h), LeB.refl _, LeB.refl _, LeB.refl _, LeB.refl _, trivial⟩) rfl rfl
      have hj := join_next sep first P x.i
      by_cases hz : x.i + 1 < m
      · refine .inl ?_
        obtain ⟨cc, hc⟩ : ∃ c, cs[x.i + 1]? = some c := ⟨_, List.getElem?_eq_getElem (by rw [hp.len]; exact hz)⟩
        obtain ⟨Sr, t2⟩ := ro_open (Hr := [_, _, _]) hc t1.hp (LeH.refl _) rfl rfl
        refine ⟨⟨x.i + 1, cc, Sr, S2⟩, ⟨hz, hc⟩, by show m - (x.i + 1) < _; omega, by rw [w64 (by omega)]; rfl, (t1.trans t2).next (leAt [0, 1, 2, 3, 6, 7, 8, 4, 5] (by decide) ⟨LeB.refl _, LeB.refl _, LeB.dl_foc (fun h => h) (.inl rfl) rfl (by rw [num_at hc]; rfl), LeB.refl _, LeB.refl _, by rw [hj]; exact LeB.refl _, LeB.refl _, LeB.cells rfl (fun h => h), LeB.refl _, trivial⟩)⟩
      · have hm : x.i + 1 = m := by omega
        refine .inr ⟨⟨0, x.c, S3, S2⟩, by omega, by rw [w64 (by omega)]; simp only [AV.den]; congr 1; omega, ?_⟩
        have hj2 : joinS sep first ((List.range m).map P) = catS (catS (joinS sep first ((List.range x.i).map P)) sep) (P x.i) := by rw [← hm]; exact hj
        exact t1.next (leAt [0, 1, 2, 3, 4, 5, 6] (by decide) ⟨LeB.refl _, LeB.refl _, LeB.refl _, LeB.refl _, LeB.refl _, by rw [hj2]; exact LeB.refl _, LeB.refl _, trivial⟩)
    · exact br_intro (fun h => absurd (of_decide_eq_true h) (by omega)) (fun _ => ⟨_, .inl ⟨_, rfl⟩, fun _ => rfl⟩))

set_option maxHeartbeats 4000000 in
theorem jn3_lc (sep first : ByteArray) (b0 b1 ln m c rn : Nat) (row : Int) (a : Option Addr) (cs : List CD) (Sl Sc : List Nat) (P : Nat → ByteArray) (hp : pcsOk sep first P m cs) (hP : ∀ (i : Nat) (c : CD), cs[i]? = some c → (∀ a q, (a, q) ∈ c.es → row = a.1 → P i = fitS a.2.text c.width a.2.kind ∧ a.2.text.size ≤ 9223372036854775807) ∧ ((∀ a q, (a, q) ∈ c.es → row ≠ a.1) → P i = fitS (ByteArray.mk #[]) c.width 0)) :
    LC Tryd.prog 26 [.v (.string sep), .v (.string first), .fn (.func 48) [] [.ptr 0 b0 0, .ptr 1 b1 0]] [⟨b0, .cells [.os 2 a ln 0 0 1 m c] 53, false⟩, ⟨b1, .cells [.fn (.func 31) [] [.ptr 4 rn 0]] 64, false⟩, ⟨ln, .dl Nat ptrD 0 (cs.map CD.num) Sl none none, false⟩, ro (colsB cs Sc), ⟨rn, .cells [.v (.int .i64 row)] 3, false⟩]
      (fun z _ => z = .v (.string (joinS sep first ((List.range m).map P)))) :=
  jn3_vc sep first b0 b1 ln m c rn row a cs Sl Sc P (by
    simp only [true_and, and_true, Int.toNat_natCast, Nat.zero_add, Nat.le_refl, List.set_cons_succ, List.set_cons_zero]
    intro n1 n2
    have q1 := hp.first
    have q2 := hp.few
    have q3 := hp.sep
    have qp := hp.pos
    refine ⟨ByteArray.mk #[], .inr rfl, (by show 0 + first.size ≤ _; omega), fun S' n5 => ⟨fun w hw => .inl ?_, fun x hx => ?_, fun x _ => ?_⟩⟩
    · obtain ⟨cc, hc⟩ : ∃ c, cs[0]? = some c := ⟨_, List.getElem?_eq_getElem (by rw [hp.len]; exact qp)⟩
      obtain ⟨Sr, t1⟩ := ro_open (Hr := [_, _, _, _]) hc hw (leAt [0, 1, 2, 3, 4, 5, 6, 7] (by decide) ⟨LeB.refl _, LeB.refl _, LeB.refl _, LeB.refl _, LeB.refl _, LeB.refl _, LeB.refl _, LeB.refl _, trivial⟩) rfl rfl
      refine ⟨⟨0, cc, Sr, S'⟩, ⟨qp, hc⟩, rfl, t1.next (leAt [0, 1, 2, 3, 6, 7, 8, 9, 4, 5] (by decide) ⟨LeB.refl _, LeB.refl _, LeB.dl_foc (fun h => h) (.inl rfl) rfl (by rw [num_at hc]; rfl), LeB.refl _, LeB.refl _, LeB.refl _, by rw [nil_cat]; exact LeB.refl _, LeB.refl _, LeB.cells rfl (fun h => h), LeB.refl _, trivial⟩)⟩
    · obtain ⟨x1, x2⟩ := hx
      have hi := hp.size (Nat.le_of_lt x1)
      have hl := hp.ltr _ _ x2
      have hw2 := hp.wid _ _ x2
      have hs := hp.small _ x1
      have hpp := hP _ _ x2
      refine br_intro (fun _ => ?_) (fun h => absurd (of_decide_eq_false h) (by omega))
      refine ⟨⟨by omega, by omega⟩, by rw [List.length_map, hp.len]; exact x1, fun a3 q3' hq => br_intro (fun he n11 => ?_) (fun _ => trivial), fun hno n9 => ?_⟩
      · obtain ⟨hpi, htz⟩ := hpp.1 a3 q3' hq (by simpa using he)
        refine ⟨⟨htz, by omega, by omega⟩, fun n8 => ⟨by omega, _, .inl ⟨_, rfl⟩, by omega, fun S1 => ⟨by omega, _, .inl ⟨_, rfl⟩, by rw [size_catS, ← hpi]; omega, fun S2 w hw => ?_⟩⟩⟩
        rw [← hpi] at hw ⊢
        obtain ⟨S3, t1⟩ := ro_close (Hr := [_, _, _, _]) x2 hw (leAt [0, 1, 2, 3, 8, 9, 4, 5, 6, 7] (by decide) ⟨LeB.refl _, LeB.refl _, LeB.refl _, LeB.refl _, LeB.cells rfl (fun h => h), LeB.refl _, LeB.refl _, LeB.refl _, LeB.refl _, LeB.refl _, trivial⟩) rfl rfl
        have hj := join_next sep first P x.i
        by_cases hz : x.i + 1 < m
        · refine .inl ?_
          obtain ⟨cc, hc⟩ : ∃ c, cs[x.i + 1]? = some c := ⟨_, List.getElem?_eq_getElem (by rw [hp.len]; exact hz)⟩
          obtain ⟨Sr, t2⟩ := ro_open (Hr := [_, _, _, _]) hc t1.hp (LeH.refl _) rfl rfl
          refine ⟨⟨x.i + 1, cc, Sr, S2⟩, ⟨hz, hc⟩, by show m - (x.i + 1) < _; omega, by rw [w64 (by omega)]; rfl, (t1.trans t2).next (leAt [0, 1, 2, 3, 6, 7, 8, 9, 4, 5] (by decide) ⟨LeB.refl _, LeB.refl _, LeB.dl_foc (fun h => h) (.inl rfl) rfl (by rw [num_at hc]; rfl), LeB.refl _, LeB.refl _, LeB.refl _, by rw [hj]; exact LeB.refl _, LeB.refl _, LeB.cells rfl (fun h => h), LeB.refl _, trivial⟩)⟩
        · have hm : x.i + 1 = m := by omega
          refine .inr ⟨⟨0, x.c, S3, S2⟩, by omega, by rw [w64 (by omega)]; simp only [AV.den]; congr 1; omega, ?_⟩
          have hj2 : joinS sep first ((List.range m).map P) = catS (catS (joinS sep first ((List.range x.i).map P)) sep) (P x.i) := by rw [← hm]; exact hj
          exact t1.next (leAt [0, 1, 2, 3, 4, 5, 6, 7] (by decide) ⟨LeB.refl _, LeB.refl _, LeB.refl _, LeB.refl _, LeB.refl _, LeB.refl _, by rw [hj2]; exact LeB.refl _, LeB.refl _, trivial⟩)
      · have hpi := hpp.2 (fun a' q' h' e => by have := hno a' q' h'; simp [e] at this)
        refine ⟨⟨by omega, by omega, by omega⟩, fun n8 => ⟨by omega, _, .inl ⟨_, rfl⟩, by omega, fun S1 => ⟨by omega, _, .inl ⟨_, rfl⟩, by rw [size_catS]; show _ + (fitS (ByteArray.mk #[]) x.c.width 0).size ≤ _; rw [← hpi]; omega, fun S2 w hw => ?_⟩⟩⟩
        have hpi : P x.i = fitS ByteArray.empty x.c.width 0 := hpi
        rw [← hpi] at hw ⊢
        obtain ⟨S3, t1⟩ := ro_close (Hr := [_, _, _, _]) x2 hw (leAt [0, 1, 2, 3, 8, 9, 4, 5, 6, 7] (by decide) ⟨LeB.refl _, LeB.refl _, LeB.refl _, LeB.refl _, LeB.cells rfl (fun h => h), LeB.refl _, LeB.refl _, LeB.refl _, LeB.refl _, LeB.refl _, trivial⟩) rfl rfl
        have hj := join_next sep first P x.i
        by_cases hz : x.i + 1 < m
        · refine .inl ?_
          obtain ⟨cc, hc⟩ : ∃ c, cs[x.i + 1]? = some c := ⟨_, List.getElem?_eq_getElem (by rw [hp.len]; exact hz)⟩
          obtain ⟨Sr, t2⟩ := ro_open (Hr := [_, _, _, _]) hc t1.hp (LeH.refl _) rfl rfl
          refine ⟨⟨x.i + 1, cc, Sr, S2⟩, ⟨hz, hc⟩, by show m - (x.i + 1) < _; omega, by rw [w64 (by omega)]; rfl, (t1.trans t2).next (leAt [0, 1, 2, 3, 6, 7, 8, 9, 4, 5] (by decide) ⟨LeB.refl _, LeB.refl _, LeB.dl_foc (fun h => h) (.inl rfl) rfl (by rw [num_at hc]; rfl), LeB.refl _, LeB.refl _, LeB.refl _, by rw [hj]; exact LeB.refl _, LeB.refl _, LeB.cells rfl (fun h => h), LeB.refl _, trivial⟩)⟩
        · have hm : x.i + 1 = m := by omega
          refine .inr ⟨⟨0, x.c, S3, S2⟩, by omega, by rw [w64 (by omega)]; simp only [AV.den]; congr 1; omega, ?_⟩
          have hj2 : joinS sep first ((List.range m).map P) = catS (catS (joinS sep first ((List.range x.i).map P)) sep) (P x.i) := by rw [← hm]; exact hj
          exact t1.next (leAt [0, 1, 2, 3, 4, 5, 6, 7] (by decide) ⟨LeB.refl _, LeB.refl _, LeB.refl _, LeB.refl _, LeB.refl _, LeB.refl _, by rw [hj2]; exact LeB.refl _, LeB.refl _, trivial⟩)
    · exact br_intro (fun h => absurd (of_decide_eq_true h) (by omega)) (fun _ => ⟨_, .inl ⟨_, rfl⟩, fun _ => rfl⟩))

end Go.Proofs.YthkegefjmcipmaaDoor

