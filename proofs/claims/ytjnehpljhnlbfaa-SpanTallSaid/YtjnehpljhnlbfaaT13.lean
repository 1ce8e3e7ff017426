/- Span: a set as a parcel; a rectangle more. -/
import Derived.Test.YtjnehpljhnlbfaaT12
namespace Go.Sp
open Go.Eng Go.Proofs.Ytjnehpljhnlbfaa

def SS.L (s : SS) : List (Int × RC) := s.es.map (·.1)
def okQ (q : RC) : Bool := okR q.t q.l q.b q.r

structure SS.ok (s : SS) : Prop where
  wf : s.t.wf
  avl : s.t.avl
  srt : s.t.toL.Pairwise ah
  perm : s.t.toL.Perm s.L
  ids : (s.L.map (·.1)).Nodup
  brn : (s.es.map (·.2)).Nodup
  clk : ∀ e ∈ s.es, e.2 < s.clock
  right : ∀ x ∈ s.L, okQ x.2 = true
  few : s.L.length ≤ 8192

/-- A rectangle more, in the plain form. -/
def addL (L : List (Int × RC)) (id : Int) (q : RC) : List (Int × RC) × Int :=
  if okQ q = false then (L, 2) else if id ∈ L.map (·.1) then (L, 9) else if L.length ≥ 8192 then (L, 7) else (L ++ [(id, q)], 0)

structure addO (s s' : SS) (id : Int) (q : RC) (code : Int) : Prop where
  ok : s'.ok
  n : s'.n = s.n
  is : (s'.L, code) = addL s.L id q

end Go.Sp
namespace Go.Eng
open Go Go.Sp Go.Proofs.Ytjnehpljhnlbfaa

theorem toL_len : ∀ t : PT, t.toL.length = t.sz
  | .leaf => rfl
  | .node n id q hi la l r => by
    show (l.toL ++ (id, q) :: r.toL).length = l.sz + r.sz + 1
    rw [List.length_append, List.length_cons, toL_len l, toL_len r]
    omega

theorem _root_.Go.Sp.SS.ok.sz {s : SS} (h : s.ok) : s.t.sz = s.L.length := by rw [← toL_len]; exact h.perm.length_eq

def setC (s : SS) (H0 : HH) : Prop := s.ok ∧ ∃ S, H0 = [stB s.n (.v (.pointer s.t.root)) (.v (.map (some s.mn))), mpB s.mn s.es s.clock, trB s.t S]

theorem setC_own (s : SS) (H0 : HH) (h : setC s H0) : allOwn H0 := by
  obtain ⟨_, S, rfl⟩ := h
  intro b hb
  simp at hb
  rcases hb with rfl | rfl | rfl <;> rfl

abbrev setB (s : SS) (S : List Nat) : Blk := packB setC s.n s S

def addH : Handler := fun _ args H K =>
  match args with
  | [.ptr i n 0, .v (.int .i64 id), .agg [.v (.int .i64 qt), .v (.int .i64 ql), .v (.int .i64 qb), .v (.int .i64 qr)]] =>
    ∃ (s : SS) (S : List Nat), nth H i = some (setB s S) ∧ n = s.n ∧ ∀ (s' : SS) (code : Int), addO s s' id ⟨qt, ql, qb, qr⟩ code → ∀ S', K (.ret (.v (.int .i64 code))) (H.set i (packB setC n s' S'))
  | _ => False

end Go.Eng
namespace Go.Proofs.Ytjnehpljhnlbfaa
open Go Go.Eng Go.Sp
set_option linter.unusedVariables false
set_option linter.unusedSimpArgs false

theorem SS.ok.no_id {s : SS} {id : Int} (h : ∀ (a : Int × RC) (b : Nat), (a, b) ∈ s.es → (id == a.fst) = false) : id ∉ s.L.map (·.1) := fun hm => by
  obtain ⟨x, hx, e⟩ := List.mem_map.1 hm
  obtain ⟨y, hy, rfl⟩ := List.mem_map.1 hx
  have := h y.1 y.2 hy
  rw [← e] at this
  simp at this

theorem _root_.Go.Sp.SS.ok.add {s : SS} (h : s.ok) {id : Int} {q : RC} (hq : okQ q = true) (hn : id ∉ s.L.map (·.1)) (hf : ¬ s.L.length ≥ 8192) (nn : Nat) : addO s { s with es := s.es ++ [((id, q), s.clock)], clock := s.clock + 1, t := s.t.ins nn id q } id q 0 := by
  have hL : ({ s with es := s.es ++ [((id, q), s.clock)], clock := s.clock + 1, t := s.t.ins nn id q } : SS).L = s.L ++ [(id, q)] := by simp [SS.L]
  have qb : 0 ≤ q.b := by
    have := okR_b (show okR q.t q.l q.b q.r = true from hq)
    omega
  have hx : ∀ x ∈ s.t.toL, ah (id, q) x ∨ ah x (id, q) := fun x hx => by
    have hxl := h.perm.mem_iff.1 hx
    have : x.1 ≠ id := fun e => hn (by rw [← e]; exact List.mem_map.2 ⟨x, hxl, rfl⟩)
    unfold ah
    simp only
    omega
  obtain ⟨i1, i2⟩ := ins_toL nn id q h.srt hx
  refine ⟨⟨(ins_both nn id q qb h.wf).1, (ins_avl nn id q qb h.wf h.avl).1, i1, ?_, ?_, ?_, ?_, ?_, ?_⟩, rfl, ?_⟩
  · rw [hL]
    exact (i2.trans (h.perm.cons _)).trans (List.perm_append_singleton _ _).symm
  · rw [hL, List.map_append, List.nodup_append]
    refine ⟨h.ids, by simp, fun a ha b hb => ?_⟩
    cases List.mem_singleton.1 hb
    exact fun e => hn (by have e : a = id := e; rw [← e]; exact ha)
  · show ((s.es ++ [((id, q), s.clock)]).map (·.2)).Nodup
    rw [List.map_append, List.nodup_append]
    refine ⟨h.brn, by simp, fun a ha b hb => ?_⟩
    cases List.mem_singleton.1 hb
    obtain ⟨e, he, rfl⟩ := List.mem_map.1 ha
    have := h.clk e he
    show e.2 ≠ s.clock
    omega
  · intro e he
    show e.2 < s.clock + 1
    rcases List.mem_append.1 (show e ∈ s.es ++ [((id, q), s.clock)] from he) with he | he
    · have := h.clk e he; omega
    · cases List.mem_singleton.1 he; show s.clock < s.clock + 1; omega
  · rw [hL]
    intro x hx
    rcases List.mem_append.1 hx with hx | hx
    · exact h.right x hx
    · cases List.mem_singleton.1 hx; exact hq
  · rw [hL, List.length_append]
    show s.L.length + 1 ≤ 8192
    omega
  · rw [hL]
    unfold addL
    rw [if_neg (by rw [hq]; decide), if_neg hn, if_neg hf]

theorem addS_ok : HOk Try.prog 25 addH := parcel_ok (C := setC) setC_own (enters_of (c := body Try.f25) Try.func25 rfl (by kernel_rfl)) fun rs args H K hk => by
  unfold addH at hk
  split at hk
  · rename_i i n id qt ql qb qr
    obtain ⟨s, S, h1, rfl, hk⟩ := hk
    refine ⟨i, s.n, s, [.ptr 0 s.n 0, .v (.int .i64 id), rcV ⟨qt, ql, qb, qr⟩], rfl, .inl ⟨S, h1, fun H0 hc => ?_⟩⟩
    obtain ⟨ok, S0, rfl⟩ := hc
    refine LC.pre (H' := [stB s.n (.pp 2 s.t.root) (.mp 1 s.mn), mpB s.mn s.es s.clock, trB s.t S0]) ?_ (LeH.of_bs ⟨LeB.cells rfl (fun h => h), LeB.refl _, LeB.refl _, trivial⟩) rfl
    have same : ∀ (code : Int), (s.L, code) = addL s.L id ⟨qt, ql, qb, qr⟩ → ∀ (Hx : HH), LeH Hx [stB s.n (.v (.pointer s.t.root)) (.v (.map (some s.mn))), mpB s.mn s.es s.clock, trB s.t S0] → ∃ (x' : SS) (N' Nx : HH) (z' : AV), LeH Hx (N' ++ Nx) ∧ setC x' N' ∧ z'.den = (AV.v (.int .i64 code)).den ∧ ∀ S', K (.ret z') (H.set i (packB setC s.n x' S') ++ Nx) := fun code hcode Hx hle =>
      ⟨s, _, [], .v (.int .i64 code), by rw [List.append_nil]; exact hle, ⟨ok, S0, rfl⟩, rfl, fun S' => by rw [List.append_nil]; exact hk s code ⟨ok, rfl, hcode⟩ S'⟩
    refine sAdd_vc s S0 id ⟨qt, ql, qb, qr⟩ ?_
    simp only [true_and, and_true]
    intro n1
    refine br_intro (fun hb => ?_) (fun hb => ?_)
    · have hq : okQ ⟨qt, ql, qb, qr⟩ = false := by
        cases h : okQ ⟨qt, ql, qb, qr⟩ with
        | false => rfl
        | true =>
          have h' : okR qt ql qb qr = true := h
          rw [h'] at hb
          cases hb
      have h' : okR qt ql qb qr = false := hq
      have e2 : ifB (okR qt ql qb qr) 0 2 = 2 := by rw [h']; rfl
      show ∃ (x' : SS) (N' Nx : HH) (z' : AV), _ ∧ _ ∧ z'.den = (AV.v (.int .i64 (ifB (okR qt ql qb qr) 0 2))).den ∧ _
      rw [e2]
      exact same 2 (by unfold addL; rw [if_pos hq]) _ (leAt [0, 1, 2] (by decide) ⟨LeB.cells rfl (fun h => h), LeB.refl _, LeB.refl _, trivial⟩)
    · have hq : okQ ⟨qt, ql, qb, qr⟩ = true := by
        cases h : okQ ⟨qt, ql, qb, qr⟩ with
        | true => rfl
        | false =>
          have h' : okR qt ql qb qr = false := h
          rw [h'] at hb
          cases hb
      have hqn : ¬ okQ ⟨qt, ql, qb, qr⟩ = false := by rw [hq]; decide
      have qb0 : 0 ≤ qb := by
        have := okR_b (show okR qt ql qb qr = true from hq)
        omega
      refine ⟨fun a n3 ha => br_intro (fun he n5 => ?_) (fun _ => trivial), fun hno n3 => ?_⟩
      · have he : id = a.1 := by simpa using he
        have hin : id ∈ s.L.map (·.1) := List.mem_map.2 ⟨a, List.mem_map.2 ⟨_, ha, rfl⟩, he.symm⟩
        exact same 9 (by unfold addL; rw [if_neg hqn, if_pos hin]) _ (leAt [0, 1, 2] (by decide) ⟨LeB.cells rfl (fun h => h), LeB.refl _, LeB.refl _, trivial⟩)
      · have hni := SS.ok.no_id hno
        have hlen : s.L.length = s.es.length := by simp [SS.L]
        refine br_intro (fun hf => ?_) (fun hf => ?_)
        · have hf : s.L.length ≥ 8192 := by have := of_decide_eq_true hf; omega
          exact same 7 (by unfold addL; rw [if_neg hqn, if_neg hni, if_pos hf]) _ (leAt [0, 1, 2] (by decide) ⟨LeB.cells rfl (fun h => h), LeB.refl _, LeB.refl _, trivial⟩)
        · have hf : ¬ s.L.length ≥ 8192 := by have := of_decide_eq_false hf; omega
          have hsz := ok.sz
          refine ⟨fun a n5 ha => br_intro (fun he => ?_) (fun _ => trivial), fun _ => ?_⟩
          · have := hno a n5 ha
            rw [he] at this
            cases this
          · refine ⟨s.t, S0, rfl, rfl, ⟨ok.wf⟩, by omega, Nat.le_refl _, qb0, fun T hT S1 => ?_⟩
            obtain ⟨nn, rfl⟩ := hT
            have ao := ok.add hq hni hf nn
            refine ⟨_, [stB s.n (.v (.pointer (s.t.ins nn id ⟨qt, ql, qb, qr⟩).root)) (.v (.map (some s.mn))), mpB s.mn (s.es ++ [((id, ⟨qt, ql, qb, qr⟩), s.clock)]) (s.clock + 1), trB (s.t.ins nn id ⟨qt, ql, qb, qr⟩) S1], [], .v (.int .i64 0), ?_, ⟨ao.ok, S1, rfl⟩, rfl, fun S' => by rw [List.append_nil]; exact hk _ 0 ao S'⟩
            rw [List.append_nil]
            exact leAt [0, 1, 5] (by decide) ⟨LeB.cells rfl (fun h => h), LeB.refl _, LeB.refl _, trivial⟩
  · exact hk.elim

end Go.Proofs.Ytjnehpljhnlbfaa

