/- Undo: Mark and Push. -/
import Derived.Test.YtkjnkepdhbpnbaaI
namespace Go.Proofs.Ytkjnkepdhbpnbaa
open Go Go.Eng Go.Sp
set_option linter.unusedVariables false
set_option linter.unusedSimpArgs false

theorem eqT {a b : ByteArray} : (eqS a b = true) ↔ a = b := eqS_iff
theorem eqF {a b : ByteArray} : (eqS a b = false) ↔ ¬ a = b := by rw [← Bool.not_eq_true, eqS_iff]

theorem nil_iff {a : ByteArray} : a = ByteArray.mk #[] ↔ a.size = 0 := by
  constructor
  · rintro rfl; rfl
  · intro h
    apply ByteArray.ext
    exact Array.eq_empty_of_size_eq_zero h

theorem mark_plain {es : MK} {nm : ByteArray} {P2 P7 Pnew : Prop} {Pset : Nat → Prop} (h2 : (nm.size = 0 ∨ 20 < nm.size) → P2) (h : ¬ (nm.size = 0 ∨ 20 < nm.size) → (∀ (v : Int) (b : Nat), ((nm, v), b) ∈ es → Pset b) ∧ ((∀ (v : Int) (b : Nat), ((nm, v), b) ∉ es) → (16 ≤ es.length → P7) ∧ (es.length < 16 → Pnew))) :
    br (eqS nm (ByteArray.mk #[])) P2 (br (decide ((nm.size : Int) > 20)) P2 ((∀ (a : ByteArray × Int) (n2 : Nat), (a, n2) ∈ es → br (eqS nm a.fst) ((∀ (a : ByteArray × Int) (n5 : Nat), (a, n5) ∈ es → br (eqS nm a.fst) (Pset n5) True) ∧ ((∀ (a : ByteArray × Int) (b : Nat), (a, b) ∈ es → eqS nm a.fst = false) → Pnew)) True) ∧ ((∀ (a : ByteArray × Int) (b : Nat), (a, b) ∈ es → eqS nm a.fst = false) → br (decide ((List.length es : Int) ≥ 16)) P7 ((∀ (a : ByteArray × Int) (n3 : Nat), (a, n3) ∈ es → br (eqS nm a.fst) (Pset n3) True) ∧ ((∀ (a : ByteArray × Int) (b : Nat), (a, b) ∈ es → eqS nm a.fst = false) → Pnew))))) := by
  simp only [br_iff, eqT, eqF, decide_eq_true_eq, decide_eq_false_iff_not, nil_iff]
  refine ⟨fun h0 => h2 (.inl h0), fun h0 => ⟨fun h1 => h2 (.inr (by omega)), fun h1 => ?_⟩⟩
  obtain ⟨g1, g2⟩ := h (by omega)
  have g3 : ∀ (a : ByteArray × Int) (n : Nat), (a, n) ∈ es → (nm = a.1 → Pset n) ∧ (¬ nm = a.1 → True) := fun a n ha => ⟨fun e => g1 a.2 n (by rw [e]; exact ha), fun _ => trivial⟩
  refine ⟨fun a n ha => ⟨fun e => ⟨g3, fun hn => absurd e (hn a n ha)⟩, fun _ => trivial⟩, fun hn => ?_⟩
  obtain ⟨k1, k2⟩ := g2 fun v b hb => hn _ _ hb rfl
  exact ⟨fun hl => k1 (by omega), fun hl => ⟨g3, fun _ => k2 (by omega)⟩⟩

theorem markH_ok : HOk Try.prog 23 markH := hist_ok (enters_of (c := body Try.f23) Try.func23 rfl (by kernel_rfl)) fun rs args H K hk => by
  unfold markH at hk
  split at hk
  · rename_i id n nm
    obtain ⟨s, S, rfl, hb, ok, hk⟩ := hk
    refine ⟨id, s, S, [.ptr 0 s.hn 0, .v (.string nm)], hb, rfl, fun H0 hc => ?_⟩
    rcases hc with ⟨ha, hl, mn, rfl⟩ | ⟨mn, an, r, cap, N, g, h1, h2, h3, rfl⟩
    · have hs : ∀ s' : HS, s'.hn = s.hn → s'.most = s.most → s'.at_ = s.at_ → s'.len = s.len → histC s' (histN s' mn) := fun s' _ _ e3 e4 => .inl ⟨by rw [e3]; exact ha, by rw [e4]; exact hl, mn, rfl⟩
      have e0 : (0 : Int) = (s.at_ : Int) := by omega
      refine mark0_vc s.hn mn s.most s.es s.clock nm ?_
      simp only [true_and]
      refine mark_plain (fun h => ⟨s, histN s mn, [], _, leEq (List.append_nil _).symm, hs s rfl rfl rfl rfl, rfl, rfl, fun S' => by rw [List.append_nil]; exact (hk S').1 h⟩) (fun h => ⟨fun v b hb => ?_, fun hn => ⟨fun hl => ?_, fun hl => ?_⟩⟩)
      · exact ⟨s.remark nm b, histN (s.remark nm b) mn, [], _, leEq (by rw [List.append_nil]; unfold histN HS.remark; rw [← e0]), hs _ rfl rfl rfl rfl, rfl, rfl, fun S' => by rw [List.append_nil]; exact ((hk S').2 h).1 v b hb⟩
      · exact ⟨s, histN s mn, [], _, leEq (List.append_nil _).symm, hs s rfl rfl rfl rfl, rfl, rfl, fun S' => by rw [List.append_nil]; exact (((hk S').2 h).2 hn).1 hl⟩
      · exact ⟨s.mark1 nm, histN (s.mark1 nm) mn, [], _, leEq (by rw [List.append_nil]; unfold histN HS.mark1; rw [← e0]), hs _ rfl rfl rfl rfl, rfl, rfl, fun S' => by rw [List.append_nil]; exact (((hk S').2 h).2 hn).2 hl⟩
    · have hs : ∀ s' : HS, s'.hn = s.hn → s'.most = s.most → s'.at_ = s.at_ → s'.len = s.len → s'.g = s.g → histC s' (histR s' mn an r cap N g) := fun s' _ _ e3 e4 e5 => .inr ⟨mn, an, r, cap, N, g, by rw [e4]; exact h1, by rw [e4]; exact h2, by rw [e4, e5]; exact h3, rfl⟩
      refine mark1_vc s.hn mn an s.most s.at_ s.es s.clock r s.len cap N g nm ?_
      simp only [true_and]
      refine mark_plain (fun h => ⟨s, histR s mn an r cap N g, [], _, leEq (List.append_nil _).symm, hs s rfl rfl rfl rfl rfl, rfl, rfl, fun S' => by rw [List.append_nil]; exact (hk S').1 h⟩) (fun h => ⟨fun v b hb => ?_, fun hn => ⟨fun hl => ?_, fun hl => ?_⟩⟩)
      · exact ⟨s.remark nm b, histR (s.remark nm b) mn an r cap N g, [], _, leEq (List.append_nil _).symm, hs _ rfl rfl rfl rfl rfl, rfl, rfl, fun S' => by rw [List.append_nil]; exact ((hk S').2 h).1 v b hb⟩
      · exact ⟨s, histR s mn an r cap N g, [], _, leEq (List.append_nil _).symm, hs s rfl rfl rfl rfl rfl, rfl, rfl, fun S' => by rw [List.append_nil]; exact (((hk S').2 h).2 hn).1 hl⟩
      · exact ⟨s.mark1 nm, histR (s.mark1 nm) mn an r cap N g, [], _, leEq (List.append_nil _).symm, hs _ rfl rfl rfl rfl rfl, rfl, rfl, fun S' => by rw [List.append_nil]; exact (((hk S').2 h).2 hn).2 hl⟩
  · cases hk

theorem keep_plain {f t : Int} {es : MK} (hk : keysOk es) (hw : ∀ a b, (a, b) ∈ es → IntKind.i64.wrap (a.2 - f) = a.2 - f) {A F : List Nat → Prop} {D : List Nat → Nat → Nat → List Nat → Prop} {S : List Nat → ByteArray × Int → Nat → Nat → List Nat → Prop} {E1 E2 E3 : List Nat → ByteArray × Int → Nat → Prop}
    (hA : A []) (hD : ∀ x n, dropE (kf f t x es) n = kf f t (n :: x) es → D x n n (n :: x)) (hS : ∀ x a n, setE (kf f t x es) n (a.1, IntKind.i64.wrap (a.2 - f)) = kf f t (n :: x) es → S x a n n (n :: x)) (hF : ∀ x, kf f t x es = kfA f t es → F x) :
    (∃ (x_1 : List Nat), (x_1.Nodup ∧ ∀ (b : Nat), b ∈ x_1 → b ∈ List.map (fun (x : (ByteArray × Int) × Nat) => x.snd) es) ∧ A x_1) ∧ ∀ (x_1 : List Nat), (x_1.Nodup ∧ ∀ (b : Nat), b ∈ x_1 → b ∈ List.map (fun (x : (ByteArray × Int) × Nat) => x.snd) es) → (∀ (a : ByteArray × Int) (n9 : Nat), (a, n9) ∈ kf f t x_1 es → ¬n9 ∈ x_1 → (∃ (a : ByteArray × Int), List.Mem (a, n9) (kf f t x_1 es)) ∧ ∀ (a : ByteArray × Int), (a, n9) ∈ kf f t x_1 es →
      br (decide (a.snd < f)) ((∀ (a_2 : ByteArray × Int) (n15 : Nat), (a_2, n15) ∈ kf f t x_1 es → br (eqS a.fst a_2.fst) (∃ (x' : List Nat), (x'.Nodup ∧ ∀ (b : Nat), b ∈ x' → b ∈ List.map (fun (x : (ByteArray × Int) × Nat) => x.snd) es) ∧ List.length es - x'.length < List.length es - x_1.length ∧ D x_1 n9 n15 x') True) ∧ ((∀ (a_2 : ByteArray × Int) (b : Nat), (a_2, b) ∈ kf f t x_1 es → eqS a.fst a_2.fst = false) → E1 x_1 a n9))
      (br (decide (a.snd > t)) ((∀ (a_2 : ByteArray × Int) (n15 : Nat), (a_2, n15) ∈ kf f t x_1 es → br (eqS a.fst a_2.fst) (∃ (x' : List Nat), (x'.Nodup ∧ ∀ (b : Nat), b ∈ x' → b ∈ List.map (fun (x : (ByteArray × Int) × Nat) => x.snd) es) ∧ List.length es - x'.length < List.length es - x_1.length ∧ D x_1 n9 n15 x') True) ∧ ((∀ (a_2 : ByteArray × Int) (b : Nat), (a_2, b) ∈ kf f t x_1 es → eqS a.fst a_2.fst = false) → E2 x_1 a n9))
      ((∀ (a_2 : ByteArray × Int) (n15 : Nat), (a_2, n15) ∈ kf f t x_1 es → br (eqS a.fst a_2.fst) (∃ (x' : List Nat), (x'.Nodup ∧ ∀ (b : Nat), b ∈ x' → b ∈ List.map (fun (x : (ByteArray × Int) × Nat) => x.snd) es) ∧ List.length es - x'.length < List.length es - x_1.length ∧ S x_1 a n9 n15 x') True) ∧ ((∀ (a_2 : ByteArray × Int) (b : Nat), (a_2, b) ∈ kf f t x_1 es → eqS a.fst a_2.fst = false) → E3 x_1 a n9)))) ∧ ((∀ (a : ByteArray × Int) (b : Nat), (a, b) ∈ kf f t x_1 es → b ∈ x_1) → F x_1) := by
  simp only [br_iff, eqT, eqF, decide_eq_true_eq, decide_eq_false_iff_not]
  refine ⟨⟨[], ⟨List.nodup_nil, fun b hb => by cases hb⟩, hA⟩, fun x hx => ⟨fun a0 n ha0 hnx => ⟨⟨a0, ha0⟩, fun a ha => ?_⟩, fun h => hF x (kf_all h)⟩⟩
  have hin : (a, n) ∈ es := by
    rcases kf_mem ha with ⟨_, g⟩ | ⟨g, _⟩
    · exact g
    · exact absurd g hnx
  have hok : (n :: x).Nodup ∧ ∀ b, b ∈ n :: x → b ∈ List.map (fun (x : (ByteArray × Int) × Nat) => x.snd) es := ⟨List.nodup_cons.2 ⟨hnx, hx.1⟩, fun b hb => by
    rcases List.mem_cons.1 hb with rfl | hb
    · exact List.mem_map.2 ⟨_, hin, rfl⟩
    · exact hx.2 b hb⟩
  have hlen : es.length - (n :: x).length < es.length - x.length := by
    have := List.Nodup.length_le_of_subset hok.1 (fun b hb => hok.2 b hb)
    rw [List.length_map] at this
    simp only [List.length_cons] at this ⊢
    omega
  have one : ∀ (a2 : ByteArray × Int) (m : Nat), (a2, m) ∈ kf f t x es → a.1 = a2.1 → m = n := fun a2 m h2 e => (kf_key hk ha h2 e).symm
  have no : (∀ (a_2 : ByteArray × Int) (b : Nat), (a_2, b) ∈ kf f t x es → ¬ a.1 = a_2.1) → False := fun h => h a n ha rfl
  have drop : ¬ (f ≤ a.2 ∧ a.2 ≤ t) → ∀ (a2 : ByteArray × Int) (m : Nat), (a2, m) ∈ kf f t x es → a.1 = a2.1 → ∃ (x' : List Nat), (x'.Nodup ∧ ∀ (b : Nat), b ∈ x' → b ∈ List.map (fun (x : (ByteArray × Int) × Nat) => x.snd) es) ∧ List.length es - x'.length < List.length es - x.length ∧ D x n m x' := fun hb a2 m h2 e => by
    obtain rfl := one a2 m h2 e
    exact ⟨_, hok, hlen, hD x m (kf_drop hk.born hin hnx hb)⟩
  refine ⟨fun h => ⟨fun a2 m h2 => ⟨fun e => drop (by omega) a2 m h2 e, fun _ => trivial⟩, fun h => (no h).elim⟩, fun h1 => ⟨fun h => ⟨fun a2 m h2 => ⟨fun e => drop (by omega) a2 m h2 e, fun _ => trivial⟩, fun h => (no h).elim⟩, fun h2 => ⟨fun a2 m h3 => ⟨fun e => ?_, fun _ => trivial⟩, fun h => (no h).elim⟩⟩⟩
  obtain rfl := one a2 m h3 e
  exact ⟨_, hok, hlen, hS x a m (by rw [hw _ _ hin]; exact kf_set hk.born hin hnx (by omega))⟩
end Go.Proofs.Ytkjnkepdhbpnbaa

