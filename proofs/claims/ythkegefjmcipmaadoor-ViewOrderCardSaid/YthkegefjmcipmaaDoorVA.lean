/- View: what stands at a place, widths, lines: the plain words. -/
import Derived.Test.YthkegefjmcipmaaDoorPF
import Derived.Test.YthkegefjmcipmaaDoorY13
namespace Go.Sp
open Go.Eng Go.Proofs.YthkegefjmcipmaaDoor

/-- What stands at a place. -/
structure Dw where
  row : Int
  col : Int
  text : ByteArray
  kind : Int

def dwD : DT Dw := ⟨fun d => [.v (.int .i64 d.row), .v (.int .i64 d.col), .v (.string d.text), .v (.int .i64 d.kind)],
  fun l => match l with | [.v (.int .i64 r), .v (.int .i64 c), .v (.string t), .v (.int .i64 k)] => some ⟨r, c, t, k⟩ | _ => none, ⟨0, 0, ByteArray.mk #[], 0⟩, 4⟩

/-- The last one at a place. -/
def atD (l : List Dw) (r c : Int) : Dw := l.foldl (fun o d => if d.row = r ∧ d.col = c then d else o) ⟨r, c, ByteArray.mk #[], 0⟩

/-- A column's width: over the first n rows from t on. -/
def colW (l : List Dw) (most t : Int) (n : Nat) (c : Int) : Int := (List.range n).foldl (fun w (i : Nat) => max w (min most ((atD l (t + (i : Int)) c).text.size : Int))) ((strL c).size : Int)

/-- The first n columns' widths. -/
def wsL (l : List Dw) (most t : Int) (n : Nat) (lf : Int) (m : Nat) : List Int := (List.range m).map fun (j : Nat) => colW l most t n (lf + (j : Int))

/-- Why nothing is drawn. -/
def badV (t l b r most : Int) : Int := if okR t l b r = false ∨ most < 1 ∨ most > 60 then 2 else if areaF t l b r > 4096 then 7 else 0

/-- Pieces behind a first one, each behind a text. -/
def joinS (sep : ByteArray) (a : ByteArray) (ps : List ByteArray) : ByteArray := ps.foldl (fun a p => catS (catS a sep) p) a

def sepB : ByteArray := ByteArray.mk #[124]
def sepP : ByteArray := ByteArray.mk #[43]
def headPs (l : List Dw) (most t : Int) (n : Nat) (lf : Int) (m : Nat) : List ByteArray := (List.range m).map fun (j : Nat) => fitS (strL (lf + (j : Int))) (colW l most t n (lf + (j : Int))) 3
def rulePs (l : List Dw) (most t : Int) (n : Nat) (lf : Int) (m : Nat) : List ByteArray := (List.range m).map fun (j : Nat) => many 45 (colW l most t n (lf + (j : Int)))
def rowPs (l : List Dw) (most t : Int) (n : Nat) (lf : Int) (m : Nat) (row : Int) : List ByteArray := (List.range m).map fun (j : Nat) => fitS (atD l row (lf + (j : Int))).text (colW l most t n (lf + (j : Int))) (atD l row (lf + (j : Int))).kind

/-- The lines. -/
def linesL (l : List Dw) (most t : Int) (n : Nat) (lf : Int) (m : Nat) : List ByteArray :=
  joinS sepB (many 32 ((numL (t + (n : Int) - 1)).size : Int)) (headPs l most t n lf m) :: joinS sepP (many 45 ((numL (t + (n : Int) - 1)).size : Int)) (rulePs l most t n lf m) ::
  (List.range n).map fun (i : Nat) => joinS sepB (fitS (numL (t + (i : Int))) ((numL (t + (n : Int) - 1)).size : Int) 1) (rowPs l most t n lf m (t + (i : Int)))

end Go.Sp
namespace Go.Eng
open Go Go.Sp Go.Proofs.YthkegefjmcipmaaDoor

theorem dwD_ok : dwD.Ok where
  len _ := rfl
  dec xs a h := by
    simp only [dwD] at h ⊢
    split at h
    · cases h; rfl
    · cases h
  one _ := rfl

theorem atD_one (l : List Dw) {i : Nat} (h : i < l.length) (r c : Int) : atD (l.take (i + 1)) r c = if (dAt l dwD.z i).row = r ∧ (dAt l dwD.z i).col = c then dAt l dwD.z i else atD (l.take i) r c := by
  unfold atD
  rw [List.take_succ_eq_append_getElem h, List.foldl_append, dAt_lt h]
  rfl

theorem atD_app (l : List Dw) (d : Dw) (r c : Int) : atD (l ++ [d]) r c = if d.row = r ∧ d.col = c then d else atD l r c := by
  unfold atD
  rw [List.foldl_append]
  rfl

theorem atD_place (l : List Dw) (r c : Int) : (atD l r c).row = r ∧ (atD l r c).col = c := by
  unfold atD
  have : ∀ (l : List Dw) (o : Dw), o.row = r ∧ o.col = c → (l.foldl (fun o d => if d.row = r ∧ d.col = c then d else o) o).row = r ∧ (l.foldl (fun o d => if d.row = r ∧ d.col = c then d else o) o).col = c := by
    intro l
    induction l with
    | nil => intro o h; exact h
    | cons d l ih =>
      intro o h
      refine ih _ ?_
      by_cases hd : d.row = r ∧ d.col = c
      · simp only [hd, and_self, if_true]
      · simp only [if_neg hd]; exact h
  exact this l _ ⟨rfl, rfl⟩

/-- Either something stands there, or nothing. -/
theorem atD_in (l : List Dw) (r c : Int) : (atD l r c ∈ l) ∨ ((∀ d ∈ l, ¬ (d.row = r ∧ d.col = c)) ∧ (atD l r c) = ⟨r, c, ByteArray.mk #[], 0⟩) := by
  have : ∀ (l : List Dw) (o : Dw), (l.foldl (fun o d => if d.row = r ∧ d.col = c then d else o) o) ∈ l ∨ ((∀ d ∈ l, ¬ (d.row = r ∧ d.col = c)) ∧ (l.foldl (fun o d => if d.row = r ∧ d.col = c then d else o) o) = o) := by
    intro l
    induction l with
    | nil => intro o; exact .inr ⟨fun d h => (by cases h), rfl⟩
    | cons d l ih =>
      intro o
      by_cases hd : d.row = r ∧ d.col = c
      · rcases ih d with h | ⟨h1, h2⟩
        · left
          simp only [List.foldl_cons, if_pos hd]
          exact List.mem_cons_of_mem _ h
        · left
          simp only [List.foldl_cons, if_pos hd, h2]
          exact List.mem_cons_self ..
      · rcases ih o with h | ⟨h1, h2⟩
        · left
          simp only [List.foldl_cons, if_neg hd]
          exact List.mem_cons_of_mem _ h
        · right
          refine ⟨fun x hx => ?_, by simp only [List.foldl_cons, if_neg hd]; exact h2⟩
          rcases List.mem_cons.1 hx with rfl | hx
          · exact hd
          · exact h1 x hx
  exact this l _

theorem colW_one (l : List Dw) (most t : Int) (n : Nat) (c : Int) : colW l most t (n + 1) c = max (colW l most t n c) (min most ((atD l (t + (n : Int)) c).text.size : Int)) := by
  unfold colW
  rw [List.range_succ, List.foldl_append]
  rfl

theorem colW_le (l : List Dw) (most t : Int) (c B : Int) : ∀ n : Nat, colW l most t n c ≤ B ↔ ((strL c).size : Int) ≤ B ∧ ∀ i : Nat, i < n → min most ((atD l (t + (i : Int)) c).text.size : Int) ≤ B
  | 0 => by simp [colW]
  | n + 1 => by
    rw [colW_one, Int.max_le, colW_le l most t c B n]
    constructor
    · rintro ⟨⟨h1, h2⟩, h3⟩
      refine ⟨h1, fun i hi => ?_⟩
      rcases Nat.lt_or_ge i n with h | h
      · exact h2 i h
      · obtain rfl : i = n := by omega
        exact h3
    · rintro ⟨h1, h2⟩
      exact ⟨⟨h1, fun i hi => h2 i (by omega)⟩, h2 n (by omega)⟩

theorem colW_b (l : List Dw) (most t : Int) (n : Nat) (c : Int) (hm : 1 ≤ most ∧ most ≤ 60) : 0 ≤ colW l most t n c ∧ colW l most t n c ≤ 63 := by
  have h3 := strL_size c
  refine ⟨?_, (colW_le l most t c 63 n).2 ⟨by omega, fun i _ => by omega⟩⟩
  have := ((colW_le l most t c _ n).1 (Int.le_refl _)).1
  omega

theorem wsL_len (l : List Dw) (most t : Int) (n : Nat) (lf : Int) (m : Nat) : (wsL l most t n lf m).length = m := by simp [wsL]
theorem wsL_one (l : List Dw) (most t : Int) (n : Nat) (lf : Int) (m : Nat) : wsL l most t n lf (m + 1) = wsL l most t n lf m ++ [colW l most t n (lf + (m : Int))] := by
  unfold wsL
  rw [List.range_succ, List.map_append]
  rfl
theorem wsL_at (l : List Dw) (most t : Int) (n : Nat) (lf : Int) {m j : Nat} (h : j < m) : dAt (wsL l most t n lf m) intD.z j = colW l most t n (lf + (j : Int)) := by
  rw [dAt_lt (by rw [wsL_len]; exact h)]
  simp [wsL]
end Go.Eng

