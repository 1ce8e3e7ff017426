/- Undo: a history as a parcel, and what its methods make of it. -/
import Derived.Test.YtkjnkepdhbpnbaaH
import Derived.Test.YtkjnkepdhbpnbaaV
import Derived.Test.YtkjnkepdhbpnbaaY2
import Derived.Test.YtkjnkepdhbpnbaaY4
namespace Go.Eng
open Go.Sp

/-- A history. -/
structure HS where
  hn : Nat
  most : Int
  at_ : Nat
  len : Nat
  g : Nat → Int
  es : MK
  clock : Nat

/-- What is so of any history. -/
structure HS.ok (s : HS) : Prop where
  m0 : 0 ≤ s.most
  m1 : s.most ≤ 256
  le : s.at_ ≤ s.len
  lm : (s.len : Int) ≤ s.most
  keys : keysOk s.es
  mark : ∀ a b, (a, b) ∈ s.es → 0 ≤ a.2 ∧ a.2 ≤ (s.len : Int)
  clk : ∀ e ∈ s.es, e.2 < s.clock

/-- A history without things, in memory. -/
def histN (s : HS) (mn : Nat) : HH := [⟨s.hn, .cells [.v (.int .i64 s.most), .v (.int .i64 0), .v (.slice none 0 0), .mp 1 mn] 55, true⟩, ⟨mn, .mape (ByteArray × Int) kyM vlM mkM s.es s.clock, true⟩]
/-- A history with things, in memory. -/
def histR (s : HS) (mn an r cap N : Nat) (g : Nat → Int) : HH := [⟨s.hn, .cells [.v (.int .i64 s.most), .v (.int .i64 (s.at_ : Int)), .sl 2 an r 1 s.len cap, .mp 1 mn] 55, true⟩, ⟨mn, .mape (ByteArray × Int) kyM vlM mkM s.es s.clock, true⟩, ⟨an, .rows N [.ints .i64 g] 3, true⟩]

/-- A history in memory. -/
def histC (s : HS) (H0 : HH) : Prop :=
  (s.at_ = 0 ∧ s.len = 0 ∧ ∃ mn, H0 = histN s mn) ∨ ∃ (mn an r cap N : Nat) (g : Nat → Int), s.len ≤ cap ∧ r + s.len ≤ N ∧ (∀ k, k < s.len → g (r + k) = s.g k) ∧ H0 = histR s mn an r cap N g

theorem histC_own {s : HS} {H0 : HH} (h : histC s H0) : allOwn H0 := by
  rcases h with ⟨_, _, mn, rfl⟩ | ⟨mn, an, r, cap, N, g, _, _, _, rfl⟩
  · intro b hb; simp [histN] at hb; rcases hb with rfl | rfl <;> rfl
  · intro b hb; simp [histR] at hb; rcases hb with rfl | rfl | rfl <;> rfl

/-- A history as one known block. -/
abbrev hH (s : HS) (S : List Nat) : Blk := packB histC s.hn s S

/-- A method of a history, as a handler. -/
theorem hist_ok {P : Program} {f : FuncId} {hd : Handler} (he : Enters P f) (h : ∀ rs args H K, hd rs args H K → ∃ (id : Nat) (s : HS) (S : List Nat) (args' : List AV), nth H id = some (hH s S) ∧ denL args' = denL args ∧ ∀ H0, histC s H0 → LC P f args' H0 (fun z H' => ∃ (s' : HS) (N' Nx : HH) (z' : AV), LeH H' (N' ++ Nx) ∧ histC s' N' ∧ s'.hn = s.hn ∧ z'.den = z.den ∧ ∀ S', K (.ret z') (H.set id (hH s' S') ++ Nx))) : HOk P f hd := by
  refine HOk.of_at he fun rs args H K hk => ?_
  obtain ⟨id, s, S, args', h1, h2, h3⟩ := h rs args H K hk
  refine ⟨id, hH s S, args', fun z H' => ∃ (s' : HS) (S' : List Nat) (Nx : HH) (z' : AV), H' = hH s' S' :: Nx ∧ z'.den = z.den ∧ K (.ret z') (H.set id (hH s' S') ++ Nx), by rw [← nth_eq]; exact h1, h2, ?_, fun z H' hz => ?_⟩
  · refine LC.of_open he fun w hw => ?_
    obtain ⟨H0, g1, _, _, g4⟩ := To.unpack (Hr := []) hw
    rw [List.append_nil] at g4
    refine ⟨H0, args', _, g4, rfl, h3 H0 g1, fun r H' w' hr hw' => ?_⟩
    obtain ⟨s', N', Nx, z', e1, e2, e3, e4, e5⟩ := hr
    have t1 := e1.to hw'
    have t2 := To.pack (Hr := Nx) s'.hn e2 (histC_own e2) t1.hp
    exact ⟨z', _, e4, ⟨s', numsAll N', Nx, z', rfl, rfl, e5 _⟩, t1.trans t2⟩
  · obtain ⟨s', S', Nx, z', e1, e2, e3⟩ := hz
    exact ⟨z', hH s' S', Nx, e2, e3, e1 ▸ LeH.refl _⟩

/-- What was done. -/
def doneH : Handler := fun _ args H K =>
  match args with
  | [.ptr id n 0] => ∃ (s : HS) (S : List Nat), n = s.hn ∧ nth H id = some (hH s S) ∧ s.ok ∧ ∀ S',
    (s.at_ = 0 → ∀ (a : Option Addr) (cap : Nat), K (.ret (.v (.slice a 0 cap))) (H.set id (hH s S'))) ∧
    (0 < s.at_ → ∀ (n N cap : Nat) (g : Nat → Int), s.at_ ≤ cap → s.at_ ≤ N → (∀ k, k < s.at_ → g k = s.g k) → K (.ret (.sl H.length n 0 1 s.at_ cap)) (H.set id (hH s S') ++ [⟨n, .rows N [.ints .i64 g] 3, true⟩]))
  | _ => False

/-- How much is taken back. -/
def undoneH : Handler := fun _ args H K =>
  match args with
  | [.ptr id n 0] => ∃ (s : HS) (S : List Nat), n = s.hn ∧ nth H id = some (hH s S) ∧ s.ok ∧ ∀ S' (a : Option Addr) (cap : Nat), K (.ret (.v (.slice a (s.len - s.at_) cap))) (H.set id (hH s S'))
  | _ => False

/-- One thing less done. -/
def HS.back (s : HS) : HS := { s with at_ := s.at_ - 1 }
/-- One thing more done. -/
def HS.again (s : HS) : HS := { s with at_ := s.at_ + 1 }

def backH : Handler := fun _ args H K =>
  match args with
  | [.ptr id n 0] => ∃ (s : HS) (S : List Nat), n = s.hn ∧ nth H id = some (hH s S) ∧ s.ok ∧ ∀ S',
    (s.at_ = 0 → K (.ret (.tup [.v (.int .i64 0), .v (.int .i64 12)])) (H.set id (hH s S'))) ∧
    (0 < s.at_ → K (.ret (.tup [.v (.int .i64 (s.g (s.at_ - 1))), .v (.int .i64 0)])) (H.set id (hH s.back S')))
  | _ => False

def againH : Handler := fun _ args H K =>
  match args with
  | [.ptr id n 0] => ∃ (s : HS) (S : List Nat), n = s.hn ∧ nth H id = some (hH s S) ∧ s.ok ∧ ∀ S',
    (s.at_ = s.len → K (.ret (.tup [.v (.int .i64 0), .v (.int .i64 12)])) (H.set id (hH s S'))) ∧
    (s.at_ < s.len → K (.ret (.tup [.v (.int .i64 (s.g s.at_)), .v (.int .i64 0)])) (H.set id (hH s.again S')))
  | _ => False

/-- A mark that was there goes to where one is. -/
def HS.remark (s : HS) (nm : ByteArray) (b : Nat) : HS := { s with es := setE s.es b (nm, (s.at_ : Int)) }
/-- A new mark. -/
def HS.mark1 (s : HS) (nm : ByteArray) : HS := { s with es := s.es ++ [((nm, (s.at_ : Int)), s.clock)], clock := s.clock + 1 }

def markH : Handler := fun _ args H K =>
  match args with
  | [.ptr id n 0, .v (.string nm)] => ∃ (s : HS) (S : List Nat), n = s.hn ∧ nth H id = some (hH s S) ∧ s.ok ∧ ∀ S',
    ((nm.size = 0 ∨ 20 < nm.size) → K (.ret (.v (.int .i64 2))) (H.set id (hH s S'))) ∧
    (¬ (nm.size = 0 ∨ 20 < nm.size) → (∀ (v : Int) (b : Nat), ((nm, v), b) ∈ s.es → K (.ret (.v (.int .i64 0))) (H.set id (hH (s.remark nm b) S'))) ∧
      ((∀ (v : Int) (b : Nat), ((nm, v), b) ∉ s.es) → (16 ≤ s.es.length → K (.ret (.v (.int .i64 7))) (H.set id (hH s S'))) ∧ (s.es.length < 16 → K (.ret (.v (.int .i64 0))) (H.set id (hH (s.mark1 nm) S')))))
  | _ => False

/-- How many things go when one comes. -/
def HS.gone (s : HS) : Nat := s.at_ + 1 - s.most.toNat
/-- One thing more. -/
def HS.push (s : HS) (x : Int) : HS := { s with at_ := s.at_ + 1 - s.gone, len := s.at_ + 1 - s.gone, g := fun k => if s.gone + k < s.at_ then s.g (s.gone + k) else x, es := kfA s.gone s.at_ s.es }

def pushH : Handler := fun _ args H K =>
  match args with
  | [.ptr id n 0, .v (.int .i64 x)] => ∃ (s : HS) (S : List Nat), n = s.hn ∧ nth H id = some (hH s S) ∧ s.ok ∧ ∀ S',
    K (.ret (.v (.int .i64 0))) (H.set id (hH (s.push x) S'))
  | _ => False

/-- A history that was just made. -/
def HS.new (n : Nat) (m : Int) : HS := { hn := n, most := max 0 (min m 256), at_ := 0, len := 0, g := fun _ => 0, es := [], clock := 0 }

def newH : Handler := fun _ args H K =>
  match args with
  | [.v (.int .i64 m)] => ∀ (n : Nat) (S : List Nat), K (.ret (.ptr H.length n 0)) (H ++ [hH (HS.new n m) S])
  | _ => False

theorem HS.new_ok (n : Nat) (m : Int) : (HS.new n m).ok := by
  refine ⟨?_, ?_, Nat.le_refl _, ?_, ⟨fun a b a' b' h => ?_, List.nodup_nil⟩, fun a b h => ?_, fun e h => ?_⟩
  · show 0 ≤ max 0 (min m 256); omega
  · show max 0 (min m 256) ≤ 256; omega
  · show ((0 : Nat) : Int) ≤ max 0 (min m 256); omega
  all_goals cases h

theorem HS.back_ok {s : HS} (h : s.ok) : s.back.ok := ⟨h.m0, h.m1, by have := h.le; show s.at_ - 1 ≤ s.len; omega, h.lm, h.keys, h.mark, h.clk⟩
theorem HS.again_ok {s : HS} (h : s.ok) (hl : s.at_ < s.len) : s.again.ok := ⟨h.m0, h.m1, hl, h.lm, h.keys, h.mark, h.clk⟩

theorem HS.mark1_ok {s : HS} (h : s.ok) {nm : ByteArray} (hn : ∀ (v : Int) (b : Nat), ((nm, v), b) ∉ s.es) : (s.mark1 nm).ok := by
  have hm : ∀ {a : ByteArray × Int} {b : Nat}, (a, b) ∈ (s.mark1 nm).es → (a, b) ∈ s.es ∨ (a = (nm, (s.at_ : Int)) ∧ b = s.clock) := fun {a b} h => by
    rcases List.mem_append.1 h with h | h
    · exact .inl h
    · cases List.mem_singleton.1 h; exact .inr ⟨rfl, rfl⟩
  refine ⟨h.m0, h.m1, h.le, h.lm, ⟨fun a b a' b' h1 h2 e => ?_, ?_⟩, fun a b h1 => ?_, fun e he => ?_⟩
  · rcases hm h1 with h1 | ⟨rfl, rfl⟩ <;> rcases hm h2 with h2 | ⟨rfl, rfl⟩
    · exact h.keys.key _ _ _ _ h1 h2 e
    · obtain ⟨a1, a2⟩ := a
      cases e
      exact absurd h1 (hn _ _)
    · obtain ⟨a1, a2⟩ := a'
      cases e
      exact absurd h2 (hn _ _)
    · rfl
  · show (List.map (·.2) (s.es ++ [_])).Nodup
    rw [List.map_append, List.nodup_append]
    refine ⟨h.keys.born, by simp, fun a ha b hb => ?_⟩
    obtain ⟨e, he, rfl⟩ := List.mem_map.1 ha
    cases List.mem_singleton.1 hb
    have := h.clk e he
    show e.2 ≠ s.clock
    omega
  · rcases hm h1 with h1 | ⟨rfl, rfl⟩
    · exact h.mark _ _ h1
    · have := h.le
      exact ⟨by show (0 : Int) ≤ (s.at_ : Int); omega, by show (s.at_ : Int) ≤ (s.len : Int); omega⟩
  · rcases hm (a := e.1) (b := e.2) he with h1 | ⟨_, h2⟩
    · have := h.clk e h1; show e.2 < s.clock + 1; omega
    · rw [h2]; show s.clock < s.clock + 1; omega

theorem HS.remark_ok {s : HS} (h : s.ok) {nm : ByteArray} {v : Int} {b : Nat} (hb : ((nm, v), b) ∈ s.es) : (s.remark nm b).ok := by
  have hm : ∀ {a : ByteArray × Int} {c : Nat}, (a, c) ∈ (s.remark nm b).es → (∃ v', ((a.1, v'), c) ∈ s.es) ∧ (a.2 = s.at_ ∨ (a, c) ∈ s.es) := fun {a c} h1 => by
    obtain ⟨e, he, h2⟩ := List.mem_map.1 (show (a, c) ∈ List.map _ _ from h1)
    split at h2
    · cases h2
      rename_i hc
      exact ⟨⟨v, hb⟩, .inl rfl⟩
    · subst h2
      exact ⟨⟨a.2, he⟩, .inr he⟩
  refine ⟨h.m0, h.m1, h.le, h.lm, ⟨fun a c a' c' h1 h2 e => ?_, ?_⟩, fun a c h1 => ?_, fun e he => ?_⟩
  · obtain ⟨⟨v1, g1⟩, _⟩ := hm h1
    obtain ⟨⟨v2, g2⟩, _⟩ := hm h2
    exact h.keys.key _ _ _ _ g1 g2 e
  · show ((setE s.es b _).map (·.2)).Nodup
    rw [setE_born]; exact h.keys.born
  · rcases (hm h1).2 with h2 | h2
    · have := h.le
      rw [h2]
      exact ⟨by omega, by show (s.at_ : Int) ≤ (s.len : Int); omega⟩
    · exact h.mark _ _ h2
  · obtain ⟨⟨v1, g1⟩, _⟩ := hm (a := e.1) (c := e.2) he
    have := h.clk _ g1; exact this

theorem HS.push_ok {s : HS} (h : s.ok) (x : Int) : (s.push x).ok := by
  have hg : s.gone = s.at_ + 1 - s.most.toNat := rfl
  have hm0 := h.m0
  refine ⟨h.m0, h.m1, Nat.le_refl _, ?_, kfA_keys h.keys, fun a b h1 => ?_, fun e he => ?_⟩
  · show ((s.at_ + 1 - s.gone : Nat) : Int) ≤ s.most
    omega
  · obtain ⟨v, g1, g2, g3, g4⟩ := kfA_mem h1
    rw [g4]
    refine ⟨by omega, ?_⟩
    show v - (s.gone : Int) ≤ ((s.at_ + 1 - s.gone : Nat) : Int)
    omega
  · obtain ⟨v, g1, _⟩ := kfA_mem (a := e.1) (b := e.2) he
    have := h.clk _ g1; exact this

end Go.Eng
namespace Go.Proofs.Ytkjnkepdhbpnbaa
open Go Go.Eng Go.Sp
set_option linter.unusedVariables false
set_option linter.unusedSimpArgs false
end Go.Proofs.Ytkjnkepdhbpnbaa

namespace Go.Proofs.Ytkjnkepdhbpnbaa
open Go Go.Eng Go.Sp
set_option linter.unusedVariables false
set_option linter.unusedSimpArgs false

theorem nbT {a b : Nat} : (a.beq b = true) ↔ a = b := by rw [Nat.beq_eq]
theorem nbF {a b : Nat} : (a.beq b = false) ↔ ¬ a = b := by rw [← Bool.not_eq_true, Nat.beq_eq]
theorem nlT {a b : Nat} : (a.ble b = true) ↔ a ≤ b := by rw [Nat.ble_eq]
theorem nlF {a b : Nat} : (a.ble b = false) ↔ ¬ a ≤ b := by rw [← Bool.not_eq_true, Nat.ble_eq]

theorem mkM_eq {k v : AV} {a : ByteArray × Int} (h : mkM k v = some a) : kyM a = k ∧ vlM a = v := by
  unfold mkM at h
  split at h
  · cases h; exact ⟨rfl, rfl⟩
  · cases h

theorem newH_ok : HOk Try.prog 14 newH := HOk.of_new (enters_of (c := body Try.f14) Try.func14 rfl (by kernel_rfl)) fun rs args H K hk => by
  unfold newH at hk
  split at hk
  · rename_i m
    refine ⟨fun z H' => ∃ n1 n2, z = .ptr 1 n2 0 ∧ H' = [Blk.mk n1 (Cont.mapc [] 0) true, Blk.mk n2 (Cont.cells [.v (.int .i64 (HS.new n2 m).most), .v (.int .i64 0), AV.v (Value.slice none 0 0), AV.mp 0 n1] 55) true], new0_vc m fun n1 n2 => ⟨n1, n2, rfl, ?_⟩, ?_⟩
    · have : (if (if 256 < m then 256 else m) > 0 then if 256 < m then 256 else m else 0) = (HS.new n2 m).most := by
        show _ = max 0 (min m 256)
        split <;> split <;> omega
      rw [← this]
    · rintro z H' ⟨n1, n2, rfl, rfl⟩
      refine ⟨.ptr H.length n2 0, [hH (HS.new n2 m) [n2, n1]], rfl, hk n2 _, ?_⟩
      have l1 : LeH [Blk.mk n1 (Cont.mapc [] 0) true, Blk.mk n2 (Cont.cells [.v (.int .i64 (HS.new n2 m).most), .v (.int .i64 0), AV.v (Value.slice none 0 0), AV.mp 0 n1] 55) true] (histN (HS.new n2 m) n1) :=
        leAt [1, 0] (by decide) ⟨⟨fun _ h => h, id, fun w h => h⟩, ⟨fun _ h => h, id, fun w h => ⟨h, List.nodup_nil, fun e (he : e ∈ []) => (by cases he), fun k v a h => mkM_eq h⟩⟩, trivial⟩
      have hc : histC (HS.new n2 m) (histN (HS.new n2 m) n1) := .inl ⟨rfl, rfl, n1, rfl⟩
      refine ⟨fun w hw => (To.pack (Hr := []) n2 hc (histC_own hc) (by rw [List.append_nil]; exact l1.holds w hw)).hp, fun i b hi k hk => ?_⟩
      cases i with
      | zero =>
        cases hi
        obtain ⟨i, c, hi, hc⟩ := (numsAll_mem (H := histN (HS.new n2 m) n1)).1 hk
        obtain ⟨j, d, h1, h2, _⟩ := l1.src i c hi k hc
        refine ⟨j, d, h1, h2, fun _ => ?_⟩
        match j, h1 with
        | 0, h1 => cases h1; rfl
        | 1, h1 => cases h1; rfl
      | succ i => cases hi
  · cases hk

theorem backH_ok : HOk Try.prog 15 backH := hist_ok (enters_of (c := body Try.f15) Try.func15 rfl (by kernel_rfl)) fun rs args H K hk => by
  unfold backH at hk
  split at hk
  · rename_i id n
    obtain ⟨s, S, rfl, hb, ok, hk⟩ := hk
    have e1 := ok.le
    have e2 := ok.lm
    have e3 := ok.m1
    refine ⟨id, s, S, [.ptr 0 s.hn 0], hb, rfl, fun H0 hc => ?_⟩
    rcases hc with ⟨ha, hl, mn, rfl⟩ | ⟨mn, an, r, cap, N, g, h1, h2, h3, rfl⟩
    · refine back0_vc s.hn mn s.most s.es s.clock ?_
      simp only [true_and, and_true]
      exact ⟨s, histN s mn, [], _, leEq (List.append_nil _).symm, .inl ⟨ha, hl, mn, rfl⟩, rfl, rfl, fun S' => by rw [List.append_nil]; exact (hk S').1 ha⟩
    · refine back1_vc s.hn mn an s.most s.at_ s.es s.clock r s.len cap N g ?_
      simp only [true_and, and_true, br_iff, beq_iff_eq, beq_eq_false_iff_ne, ne_eq]
      refine ⟨fun h => ⟨s, histR s mn an r cap N g, [], _, leEq (List.append_nil _).symm, .inr ⟨mn, an, r, cap, N, g, h1, h2, h3, rfl⟩, rfl, rfl, fun S' => by rw [List.append_nil]; exact (hk S').1 (by omega)⟩, fun h => ?_⟩
      have ew : IntKind.i64.wrap ((s.at_ : Int) - 1) = ((s.at_ - 1 : Nat) : Int) := by rw [w64 (by omega)]; omega
      rw [ew]
      refine ⟨⟨by omega, by omega⟩, by omega, s.back, histR s.back mn an r cap N g, [], .tup [.v (.int .i64 (s.g (s.at_ - 1))), .v (.int .i64 0)], leEq (List.append_nil _).symm, .inr ⟨mn, an, r, cap, N, g, h1, h2, h3, rfl⟩, rfl, ?_, fun S' => by rw [List.append_nil]; exact (hk S').2 (by omega)⟩
      rw [← h3 (s.at_ - 1) (by omega)]
      rfl
  · cases hk

theorem againH_ok : HOk Try.prog 16 againH := hist_ok (enters_of (c := body Try.f16) Try.func16 rfl (by kernel_rfl)) fun rs args H K hk => by
  unfold againH at hk
  split at hk
  · rename_i id n
    obtain ⟨s, S, rfl, hb, ok, hk⟩ := hk
    have e1 := ok.le
    have e2 := ok.lm
    have e3 := ok.m1
    refine ⟨id, s, S, [.ptr 0 s.hn 0], hb, rfl, fun H0 hc => ?_⟩
    rcases hc with ⟨ha, hl, mn, rfl⟩ | ⟨mn, an, r, cap, N, g, h1, h2, h3, rfl⟩
    · refine again0_vc s.hn mn s.most s.es s.clock ?_
      simp only [true_and, and_true]
      exact ⟨s, histN s mn, [], _, leEq (List.append_nil _).symm, .inl ⟨ha, hl, mn, rfl⟩, rfl, rfl, fun S' => by rw [List.append_nil]; exact (hk S').1 (by omega)⟩
    · refine again1_vc s.hn mn an s.most s.at_ s.es s.clock r s.len cap N g ?_
      simp only [true_and, and_true, br_iff, beq_iff_eq, beq_eq_false_iff_ne, ne_eq]
      refine ⟨fun h => ⟨s, histR s mn an r cap N g, [], _, leEq (List.append_nil _).symm, .inr ⟨mn, an, r, cap, N, g, h1, h2, h3, rfl⟩, rfl, rfl, fun S' => by rw [List.append_nil]; exact (hk S').1 (by omega)⟩, fun h => ?_⟩
      have ew : IntKind.i64.wrap ((s.at_ : Int) + 1) = ((s.at_ + 1 : Nat) : Int) := by rw [w64 (by omega)]; omega
      have ew2 : IntKind.i64.wrap (((s.at_ + 1 : Nat) : Int) - 1) = (s.at_ : Int) := by rw [w64 (by omega)]; omega
      rw [ew, ew2]
      refine ⟨⟨by omega, by omega⟩, by omega, s.again, histR s.again mn an r cap N g, [], .tup [.v (.int .i64 (s.g s.at_)), .v (.int .i64 0)], leEq (List.append_nil _).symm, .inr ⟨mn, an, r, cap, N, g, h1, h2, h3, rfl⟩, rfl, ?_, fun S' => by rw [List.append_nil]; exact (hk S').2 (by omega)⟩
      rw [← h3 s.at_ (by omega)]
      rfl
  · cases hk

theorem doneH_ok : HOk Try.prog 11 doneH := hist_ok (enters_of (c := body Try.f11) Try.func11 rfl (by kernel_rfl)) fun rs args H K hk => by
  unfold doneH at hk
  split at hk
  · rename_i id n
    obtain ⟨s, S, rfl, hb, ok, hk⟩ := hk
    have e1 := ok.le
    have e2 := ok.lm
    have e3 := ok.m1
    refine ⟨id, s, S, [.ptr 0 s.hn 0], hb, rfl, fun H0 hc => ?_⟩
    rcases hc with ⟨ha, hl, mn, rfl⟩ | ⟨mn, an, r, cap, N, g, h1, h2, h3, rfl⟩
    · refine don0_vc s.hn mn s.most s.es s.clock ?_
      simp only [true_and, and_true]
      exact ⟨by decide, s, histN s mn, [], _, leEq (List.append_nil _).symm, .inl ⟨ha, hl, mn, rfl⟩, rfl, rfl, fun S' => by rw [List.append_nil]; exact (hk S').1 ha none 0⟩
    · refine don1_vc s.hn mn an s.most s.at_ s.es s.clock r s.len cap N g ?_
      simp only [true_and, and_true, br_iff, nlT, nlF, nbT, nbF, Int.toNat_natCast, Nat.sub_zero, Nat.zero_add]
      have hc : histC s (histR s mn an r cap N g) := .inr ⟨mn, an, r, cap, N, g, h1, h2, h3, rfl⟩
      refine ⟨⟨by omega, by omega⟩, fun n1 => ⟨by omega, by decide, fun h => ⟨fun h4 => ?_, fun h4 => absurd (by omega) h4⟩, fun h => ⟨⟨by omega, by omega⟩, fun n2 n3 hn => ?_⟩⟩⟩
      · exact ⟨s, histR s mn an r cap N g, [], .v (.slice (some ⟨n1, 0, none⟩) 0 0), leAt [0, 1, 2] (by decide) (LeBs.refl _), hc, rfl, rfl, fun S' => by rw [List.append_nil]; exact (hk S').1 h4 _ _⟩
      · refine ⟨s, histR s mn an r cap N g, [Blk.mk n2 (.rows n3 [.ints .i64 _] 3) true], .sl H.length n2 0 1 s.at_ n3, leAt [0, 1, 2, 4] (by decide) (LeBs.refl _), hc, rfl, rfl, fun S' => (hk S').2 (by omega) n2 n3 n3 _ hn hn fun k hk => ?_⟩
        rw [if_neg (by omega), if_pos hk, ← h3 k (by omega)]
  · cases hk

theorem undoneH_ok : HOk Try.prog 12 undoneH := hist_ok (enters_of (c := body Try.f12) Try.func12 rfl (by kernel_rfl)) fun rs args H K hk => by
  unfold undoneH at hk
  split at hk
  · rename_i id n
    obtain ⟨s, S, rfl, hb, ok, hk⟩ := hk
    have e1 := ok.le
    have e2 := ok.lm
    have e3 := ok.m1
    refine ⟨id, s, S, [.ptr 0 s.hn 0], hb, rfl, fun H0 hc => ?_⟩
    rcases hc with ⟨ha, hl, mn, rfl⟩ | ⟨mn, an, r, cap, N, g, h1, h2, h3, rfl⟩
    · refine und0_vc s.hn mn s.most s.es s.clock ?_
      simp only [true_and, and_true]
      exact ⟨by decide, by decide, s, histN s mn, [], .v (.slice none (s.len - s.at_) 0), leEq (List.append_nil _).symm, .inl ⟨ha, hl, mn, rfl⟩, rfl, by rw [hl]; simp, fun S' => by rw [List.append_nil]; exact hk S' none 0⟩
    · refine und1_vc s.hn mn an s.most s.at_ s.es s.clock r s.len cap N g ?_
      simp only [true_and, and_true, br_iff, nlT, nlF, nbT, nbF, Int.toNat_natCast, Nat.sub_zero, Nat.zero_add]
      have hc : histC s (histR s mn an r cap N g) := .inr ⟨mn, an, r, cap, N, g, h1, h2, h3, rfl⟩
      have ho : offB cap s.at_ s.len r + (s.len - s.at_) ≤ N := by
        unfold offB offN
        repeat' split
        all_goals omega
      refine ⟨⟨by omega, by omega⟩, h1, fun n1 => ⟨ho, by decide, fun h => ⟨fun h4 => ?_, fun h4 => absurd (by omega) h4⟩, fun h => ⟨⟨by omega, by omega⟩, fun n2 n3 hn => ?_⟩⟩⟩
      · exact ⟨s, histR s mn an r cap N g, [], .v (.slice (some ⟨n1, 0, none⟩) (s.len - s.at_) 0), leAt [0, 1, 2] (by decide) (LeBs.refl _), hc, rfl, by rw [h4]; rfl, fun S' => by rw [List.append_nil]; exact hk S' _ _⟩
      · exact ⟨s, histR s mn an r cap N g, [], .v (.slice (some ⟨n2, 0, none⟩) (s.len - s.at_) n3), leAt [0, 1, 2] (by decide) (LeBs.refl _), hc, rfl, rfl, fun S' => by rw [List.append_nil]; exact hk S' _ _⟩
  · cases hk
end Go.Proofs.Ytkjnkepdhbpnbaa

