import Derived.Test.YthnkafambegbcaaEngA
namespace Go.Eng
open Go
structure SV where
  a : Option Addr
  len : Nat
  cap : Nat
structure RW where
  n : Nat
  o : Nat
  len : Nat
  cap : Nat
  a : Option Addr
inductive Col where
  | ints (k : IntKind) (g : Nat → Int)
  | strs (g : Nat → ByteArray)
  | bools (g : Nat → Bool)
  | slcs (g : Nat → SV)
  | any (g : Nat → AV)
def Col.at : Col → Nat → AV
  | .ints k g, i => .v (.int k (g i))
  | .strs g, i => .v (.string (g i))
  | .bools g, i => .v (.bool (g i))
  | .slcs g, i => .v (.slice (g i).a (g i).len (g i).cap)
  | .any g, i => g i
def rowOf : List Col → Nat → List AV
  | [], _ => []
  | c :: cs, i => c.at i :: rowOf cs i
@[simp] theorem rowOf_length : ∀ (cs : List Col) (i : Nat), (rowOf cs i).length = cs.length
  | [], _ => rfl
  | c :: cs, i => by simp [rowOf, rowOf_length cs i]
def upd {α : Type} (g : Nat → α) (r : Nat) (x : α) : Nat → α := fun q => if q = r then x else g q
structure DT (α : Type) where
  enc : α → List AV
  dec : List AV → Option α
  z : α
  sz : Nat
structure DT.Ok {α : Type} (d : DT α) : Prop where
  len : ∀ a, (d.enc a).length = d.sz
  dec : ∀ xs a, d.dec xs = some a → denL (d.enc a) = denL xs
  one : ∀ a, (d.enc a).all AV.one = true
end Go.Eng
namespace Go.Sp
def dAt {α : Type} (l : List α) (z : α) (i : Nat) : α := (l[i]?).getD z
end Go.Sp
namespace Go.Eng
open Go Go.Sp
inductive Cont where
  | cells (l : List AV) (ty : TypeId)
  | rows (n : Nat) (cs : List Col) (ty : TypeId)
  | mapc (es : List (AV × AV × Nat)) (clock : Nat)
  | mape (α : Type) (ky vl : α → AV) (mk : AV → AV → Option α) (es : List (α × Nat)) (clock : Nat)
  | iters (s : ByteArray) (pos : Nat)
  | itere (mid mnum since : Nat) (rseen : List Nat)
  | iterc (mid mnum since : Nat) (seen : List Nat) (last : Nat)
  | obj (o : Obj)
  | view (o n : Nat) (cs : List Col)
  | buf (S : ByteArray) (cap : Nat) (ty : TypeId)
  | res (α : Type) (x : α) (S : α → List Nat) (I : α → (Nat → Option Obj) → Prop)
  | texts (o L : Nat) (g : Nat → RW) (F : Nat → Nat → ByteArray) (S : List Nat) (full : Bool)
  | lst (o n : Nat) (cs : List Col) (S : List Nat) (wr : Option (Nat × TypeId))
  | dl (α : Type) (d : DT α) (o : Nat) (l : List α) (S : List Nat) (wr : Option (Nat × TypeId)) (foc : Option (Nat × List AV))
  | mix (B N : Nat) (bs : Nat → Bool) (is : Nat → Int) (ty : TypeId)
  | loopc (lvl : Nat) (st : LoopState) (pend : Option Code) (T : TT) (nt : Nat) (ps : List Nat) (asg bdy : Code)
structure Blk where
  num : Nat
  c : Cont
  own : Bool
def Held (w : World) (n : Nat) (c : List Value) (ty : TypeId) : Prop := ∃ fz : Nat × Nat, w.heap[n]? = some (.cells c.toArray ty fz) ∧ (fz = (0, 0) ∨ c.length ≤ fz.1)
theorem Held.plain {w : World} {n : Nat} {c : List Value} {ty : TypeId} (h : w.heap[n]? = some (.cells c.toArray ty (0, 0))) : Held w n c ty := ⟨_, h, .inl rfl⟩
def mapEs (es : List (AV × AV × Nat)) : Array MapEntry := (es.map fun e => { key := e.1.den, val := e.2.1.den, born := e.2.2 }).toArray
def mapDs {α : Type} (ky vl : α → AV) (es : List (α × Nat)) : Array MapEntry := (es.map fun e => { key := (ky e.1).den, val := (vl e.1).den, born := e.2 }).toArray
def Cont.nums (c : Cont) (n : Nat) : List Nat :=
  match c with
  | .res _ x S _ => S x
  | .texts _ _ _ _ S _ => S
  | .lst _ _ _ S _ => S
  | .dl _ _ _ _ S _ _ => S
  | _ => [n]
def part_ (w : World) (S : List Nat) (k : Nat) : Option Obj := if k ∈ S then w.heap[k]? else none
structure LoopIs (r : Loop) (st : LoopState) (pend : Option Code) (T : TT) (nt : Nat) (ps : List Nat) (asg bdy : Code) : Prop where
  st : r.state = st
  pend : r.pending = pend
  tm : Matches T r.tmps
  sz : r.tmps.size = nt
  ps : r.params.toList = ps
  asg : r.assign = asg
  bdy : r.body = bdy
def LstH (w : World) (num o n : Nat) (row : Nat → List AV) (k : Nat) (S : List Nat) (wr : Option (Nat × TypeId)) : Prop :=
  (∀ k ∈ S, k < w.heap.size) ∧ (0 < n → num ∈ S ∧ ∃ (c : List Value) (ty : TypeId) (fz : Nat × Nat), w.heap[num]? = some (.cells c.toArray ty fz) ∧ ∀ i, i < n → ∀ j x, (row i)[j]? = some x → c[o + i * k + j]? = some x.den) ∧
    (∀ cap ty, wr = some (cap, ty) → o = 0 ∧ n ≤ cap ∧ (0 < cap → num ∈ S ∧ ∃ c : List Value, Held w num c ty ∧ cap * k ≤ c.length))
def Cont.holds (w : World) (num : Nat) : Cont → Prop
  | .cells l ty => Held w num (denL l) ty
  | .rows n cs ty => ∃ c : List Value, Held w num c ty ∧ c.length = n * cs.length ∧ ∀ i, i < n → ∀ j x, (rowOf cs i)[j]? = some x → c[i * cs.length + j]? = some x.den
  | .mapc es clock => w.heap[num]? = some (.map (mapEs es) clock)
  | .mape _ ky vl mk es clock => w.heap[num]? = some (.map (mapDs ky vl es) clock) ∧ (es.map (·.2)).Nodup ∧ (∀ e ∈ es, e.2 < clock) ∧ ∀ k v a, mk k v = some a → ky a = k ∧ vl a = v
  | .itere _ m since rseen => w.heap[num]? = some (.mapIter (some m) since rseen.reverse.toArray since)
  | .res _ x S I => (∀ k ∈ S x, k < w.heap.size) ∧ I x (part_ w (S x))
  | .texts o L g F S full => (∀ k ∈ S, k < w.heap.size) ∧ (0 < L → num ∈ S ∧ ∃ (c : List Value) (ty : TypeId) (fz : Nat × Nat), w.heap[num]? = some (.cells c.toArray ty fz) ∧ ∀ i, i < L → c[o + i]? = some (.slice (if (g i).len = 0 then (g i).a else some ⟨(g i).n, (g i).o, none⟩) (g i).len (g i).cap)) ∧ (∀ i, i < L → ∀ j, j < (g i).len → (g i).n ∈ S ∧ w.cell? ⟨(g i).n, (g i).o + j, none⟩ = some (.string (F i j))) ∧ (full = true → ∀ i, i < L → 0 < (g i).len)
  | .iterc _ m since seen last => w.heap[num]? = some (.mapIter (some m) since seen.toArray last)
  | .iters s pos => w.heap[num]? = some (.stringIter s pos)
  | .obj o => w.heap[num]? = some o
  | .view o n cs => ∃ (c : List Value) (ty : TypeId) (fz : Nat × Nat), w.heap[num]? = some (.cells c.toArray ty fz) ∧ ∀ i, i < n → ∀ j x, (rowOf cs i)[j]? = some x → c[o + i * cs.length + j]? = some x.den
  | .buf S cap ty => ∃ (c : List Value) (fz : Nat × Nat), w.heap[num]? = some (.cells c.toArray ty fz) ∧ c.length = cap ∧ S.size ≤ cap ∧ 1 ≤ cap ∧ S.size ≤ 9223372036854775807 ∧ (fz.1 = fz.2 ∨ fz.2 ≤ S.size) ∧ ∀ i, i < S.size → c[i]? = some (.int .u8 (((S.data.toList[i]?).getD 0).toNat))
  | .lst o n cs S wr => (∀ k ∈ S, k < w.heap.size) ∧ (0 < n → num ∈ S ∧ ∃ (c : List Value) (ty : TypeId) (fz : Nat × Nat), w.heap[num]? = some (.cells c.toArray ty fz) ∧ ∀ i, i < n → ∀ j x, (rowOf cs i)[j]? = some x → c[o + i * cs.length + j]? = some x.den) ∧ (∀ cap ty, wr = some (cap, ty) → o = 0 ∧ n ≤ cap ∧ (0 < cap → num ∈ S ∧ ∃ c : List Value, Held w num c ty ∧ c.length = cap * cs.length))
  | .dl _ d o l S wr foc => d.Ok ∧ (∀ f fv, foc = some (f, fv) → fv.length = d.sz ∧ denL fv = denL (d.enc (dAt l d.z f))) ∧ LstH w num o l.length (fun i => d.enc (dAt l d.z i)) d.sz S wr
  | .mix B N bs is ty => ∃ c : List Value, Held w num c ty ∧ c.length = N ∧ ∀ o, o < N → c[o]? = some (if o < B then .bool (bs o) else .int .i64 (is o))
  | .loopc _ st pend T nt ps asg bdy => ∃ r : Loop, w.heap[num]? = some (.loop r) ∧ LoopIs r st pend T nt ps asg bdy
theorem part_eq {w w' : World} {S : List Nat} (h : ∀ k ∈ S, w'.heap[k]? = w.heap[k]?) : part_ w' S = part_ w S := by
  funext k
  unfold part_
  split
  · rename_i hk; exact h k hk
  · rfl
theorem lt_of_some {w : World} {n : Nat} {o : Obj} (h : w.heap[n]? = some o) : n < w.heap.size := (Array.getElem?_eq_some_iff.1 h).1
theorem Cont.holds_block {w w' : World} {n : Nat} {c : Cont} (h : c.holds w n) (hb : ∀ k ∈ c.nums n, w'.heap[k]? = w.heap[k]?) : c.holds w' n := by
  cases c with
  | res α x S I =>
    simp only [Cont.holds, Cont.nums] at *
    refine ⟨fun k hk => ?_, by rw [part_eq hb]; exact h.2⟩
    have h1 := h.1 k hk
    have h2 := hb k hk
    rw [Array.getElem?_eq_getElem h1] at h2
    exact lt_of_some h2
  | texts o L g F S full =>
    simp only [Cont.holds, Cont.nums] at *
    refine ⟨fun k hk => ?_, fun hL => ⟨(h.2.1 hL).1, by rw [hb n (h.2.1 hL).1]; exact (h.2.1 hL).2⟩, fun i hi j hj => ⟨(h.2.2.1 i hi j hj).1, ?_⟩, h.2.2.2⟩
    · have h1 := h.1 k hk
      have h2 := hb k hk
      rw [Array.getElem?_eq_getElem h1] at h2
      exact lt_of_some h2
    · obtain ⟨h1, h2⟩ := h.2.2.1 i hi j hj
      simp only [World.cell?, hb _ h1] at h2 ⊢
      exact h2
  | lst o n' cs S wr =>
    simp only [Cont.holds, Cont.nums] at *
    obtain ⟨h1, h2, h3⟩ := h
    refine ⟨fun k hk => ?_, fun hn => ?_, fun cap ty e => ?_⟩
    · have h1 := h1 k hk
      have h2 := hb k hk
      rw [Array.getElem?_eq_getElem h1] at h2
      exact lt_of_some h2
    · obtain ⟨g1, g2⟩ := h2 hn
      exact ⟨g1, by rw [hb n g1]; exact g2⟩
    · obtain ⟨g1, g2, g3⟩ := h3 cap ty e
      refine ⟨g1, g2, fun hc => ?_⟩
      obtain ⟨g4, c, ⟨fz, g5, g6⟩, g7⟩ := g3 hc
      exact ⟨g4, c, ⟨fz, by rw [hb n g4]; exact g5, g6⟩, g7⟩
  | dl α d o l S wr foc =>
    simp only [Cont.holds, Cont.nums] at *
    obtain ⟨k1, k2, h1, h2, h3⟩ := h
    refine ⟨k1, k2, fun k hk => ?_, fun hn => ?_, fun cap ty e => ?_⟩
    · have h1 := h1 k hk
      have h2 := hb k hk
      rw [Array.getElem?_eq_getElem h1] at h2
      exact lt_of_some h2
    · obtain ⟨g1, g2⟩ := h2 hn
      exact ⟨g1, by rw [hb n g1]; exact g2⟩
    · obtain ⟨g1, g2, g3⟩ := h3 cap ty e
      refine ⟨g1, g2, fun hc => ?_⟩
      obtain ⟨g4, c, ⟨fz, g5, g6⟩, g7⟩ := g3 hc
      exact ⟨g4, c, ⟨fz, by rw [hb n g4]; exact g5, g6⟩, g7⟩
  | _ =>
    have hb := hb n (by simp [Cont.nums])
    simp only [Cont.holds, Held] at *
    rw [hb]
    exact h
theorem Cont.holds_lt {w : World} {n : Nat} {c : Cont} (h : c.holds w n) : ∀ k ∈ c.nums n, k < w.heap.size := by
  have one : ∀ {o : Obj}, w.heap[n]? = some o → ∀ k ∈ [n], k < w.heap.size := fun h k hk => by
    simp only [List.mem_singleton] at hk
    subst hk
    exact lt_of_some h
  cases c with
  | res α x S I => exact h.1
  | texts o L g F S full => exact h.1
  | lst o n cs S wr => exact h.1
  | dl α d o l S wr foc => exact h.2.2.1
  | cells l ty => obtain ⟨_, h, _⟩ := h; exact one h
  | rows n' cs ty => obtain ⟨c, ⟨_, h, _⟩, _⟩ := h; exact one h
  | mapc es clock => exact one h
  | mape α ky vl mk es clock => exact one h.1
  | iterc a b c d e => exact one h
  | itere a b c d => exact one h
  | iters s pos => exact one h
  | obj o => exact one h
  | view o n' cs => obtain ⟨_, _, _, h, _⟩ := h; exact one h
  | buf S cap ty => obtain ⟨_, _, h, _⟩ := h; exact one h
  | mix a b c d e => obtain ⟨_, ⟨_, h, _⟩, _⟩ := h; exact one h
  | loopc a b c d e f g i => obtain ⟨_, h, _⟩ := h; exact one h
abbrev HH := List Blk
def Blk.nums (b : Blk) : List Nat := b.c.nums b.num
structure HoldsH (H : HH) (w : World) : Prop where
  all : ∀ (i : Nat) (b : Blk), H[i]? = some b → b.c.holds w b.num
  apart : ∀ (i j : Nat) (b c : Blk), H[i]? = some b → H[j]? = some c → i ≠ j → ∀ k ∈ b.nums, k ∉ c.nums
def Dr (w w' : World) : Prop := w.drawn ≤ w'.drawn
theorem Dr.of_le {w w' : World} (h : w.drawn ≤ w'.drawn) : Dr w w' := by first | exact trivial | exact h
theorem Dr.refl (w : World) : Dr w w := Dr.of_le (Nat.le_refl _)
theorem Dr.trans {w1 w2 w3 : World} (h1 : Dr w1 w2) (h2 : Dr w2 w3) : Dr w1 w3 := by first | exact trivial | exact Nat.le_trans h1 h2
structure Frm (fp : List Nat) (w w' : World) : Prop where
  os : w'.os = w.os
  tape : w'.tape = w.tape
  output : w'.output = w.output
  size : w.heap.size ≤ w'.heap.size
  block : ∀ k, k < w.heap.size → k ∉ fp → w'.heap[k]? = w.heap[k]?
  dr : Dr w w' := by first | exact Dr.of_le (Nat.le_refl _) | exact Dr.of_le (Nat.le_succ _) | exact Dr.of_le (by simp)
theorem Frm.refl (fp : List Nat) (w : World) : Frm fp w w := ⟨rfl, rfl, rfl, Nat.le_refl _, fun _ _ _ => rfl, Dr.refl _⟩
structure Same (w w' : World) : Prop where
  heap : w'.heap = w.heap
  os : w'.os = w.os
  tape : w'.tape = w.tape
  output : w'.output = w.output
  dr : Dr w w' := by first | exact Dr.of_le (Nat.le_refl _) | exact Dr.of_le (Nat.le_succ _) | exact Dr.of_le (by simp)
def ownNums : HH → List Nat
  | [] => []
  | b :: H => if b.own then b.nums ++ ownNums H else ownNums H
theorem mem_ownNums {n : Nat} : ∀ {H : HH}, n ∈ ownNums H → ∃ (i : Nat) (b : Blk), H[i]? = some b ∧ b.own = true ∧ n ∈ b.nums
  | [], h => by simp [ownNums] at h
  | b :: H, h => by
    simp only [ownNums] at h
    split at h
    · rename_i ho
      rcases List.mem_append.1 h with h | h
      · exact ⟨0, b, rfl, ho, h⟩
      · obtain ⟨i, c, h1, h2, h3⟩ := mem_ownNums h; exact ⟨i + 1, c, h1, h2, h3⟩
    · obtain ⟨i, c, h1, h2, h3⟩ := mem_ownNums h; exact ⟨i + 1, c, h1, h2, h3⟩
theorem ownNums_mem {b : Blk} (ho : b.own = true) {n : Nat} (hn : n ∈ b.nums) : ∀ {H : HH} {i : Nat}, H[i]? = some b → n ∈ ownNums H
  | [], i, h => by simp at h
  | c :: H, 0, h => by simp at h; subst h; simp [ownNums, ho, hn]
  | c :: H, i + 1, h => by
    simp only [List.getElem?_cons_succ] at h
    have := ownNums_mem ho hn h
    simp only [ownNums]
    split <;> simp [this]
def Whence (Hin H : HH) (size : Nat) : Prop := ∀ (i : Nat) (b : Blk), H[i]? = some b → ∀ k ∈ b.nums, (∃ (j : Nat) (d : Blk), Hin[j]? = some d ∧ k ∈ d.nums ∧ (b.own = true → d.own = true)) ∨ size ≤ k
structure HeapOk (w0 : World) (Hin : HH) (H : HH) (w : World) : Prop where
  hp : HoldsH H w
  fr : Frm (ownNums Hin) w0 w
  src : Whence Hin H w0.heap.size
theorem HeapOk.ow {w0 : World} {Hin H : HH} {w : World} (h : HeapOk w0 Hin H w) (i : Nat) (b : Blk) (hi : H[i]? = some b) (ho : b.own = true) (k : Nat) (hk : k ∈ b.nums) : w0.heap.size ≤ k ∨ k ∈ ownNums Hin := by
  rcases h.src i b hi k hk with ⟨j, d, hj, hn, hd⟩ | hn
  · exact .inr (ownNums_mem (hd ho) hn hj)
  · exact .inl hn
theorem HeapOk.same {w0 : World} {Hin H : HH} {w w' : World} (h : HeapOk w0 Hin H w) (s : Same w w') : HeapOk w0 Hin H w' :=
  ⟨⟨fun i b hi => Cont.holds_block (h.hp.all i b hi) (fun k _ => by rw [s.heap]), h.hp.apart⟩,
   ⟨s.os.trans h.fr.os, s.tape.trans h.fr.tape, s.output.trans h.fr.output, by rw [s.heap]; exact h.fr.size, fun k hk hf => by rw [s.heap]; exact h.fr.block k hk hf, h.fr.dr.trans s.dr⟩, h.src⟩
theorem HeapOk.alloc {w0 : World} {Hin H : HH} {w : World} (h : HeapOk w0 Hin H w) (o : Obj) (c : Cont) (hc : c.holds (w.alloc o) w.heap.size) (hcn : c.nums w.heap.size = [w.heap.size] := by rfl) :
    HeapOk w0 Hin (H ++ [⟨w.heap.size, c, true⟩]) (w.alloc o) := by
  have old : ∀ k, k < w.heap.size → (w.alloc o).heap[k]? = w.heap[k]? := fun k hk => Go.RowKit.Below.heap_alloc _ _ _ hk
  have hnn : ∀ k ∈ (⟨w.heap.size, c, true⟩ : Blk).nums, k = w.heap.size := fun k hk => by
    simp only [Blk.nums, hcn, List.mem_singleton] at hk
    exact hk
  have hin : ∀ (i : Nat) (b : Blk), (H ++ [(⟨w.heap.size, c, true⟩ : Blk)])[i]? = some b → H[i]? = some b ∨ (i = H.length ∧ b = ⟨w.heap.size, c, true⟩) := by
    intro i b hi
    rw [List.getElem?_append] at hi
    split at hi
    · exact .inl hi
    · rename_i hlt
      by_cases he : i - H.length = 0
      · rw [he] at hi; simp at hi; exact .inr ⟨by omega, hi.symm⟩
      · rw [List.getElem?_eq_none (by simp; omega)] at hi; cases hi
  refine ⟨⟨fun i b hi => ?_, fun i j b d hi hj hij k hk => ?_⟩, ⟨h.fr.os, h.fr.tape, h.fr.output, ?_, fun k hk hf => ?_, h.fr.dr⟩, fun i b hi k hk => ?_⟩
  · rcases hin i b hi with hi | ⟨_, rfl⟩
    · exact Cont.holds_block (h.hp.all i b hi) (fun k hk => old _ (Cont.holds_lt (h.hp.all i b hi) k hk))
    · exact hc
  · rcases hin i b hi with hi | ⟨hi', rfl⟩ <;> rcases hin j d hj with hj | ⟨hj', rfl⟩
    · exact h.hp.apart i j b d hi hj hij k hk
    · intro hk2
      have := Cont.holds_lt (h.hp.all i b hi) k hk
      have := hnn k hk2
      omega
    · intro hk2
      have := Cont.holds_lt (h.hp.all j d hj) k hk2
      have := hnn k hk
      omega
    · omega
  · have := h.fr.size; simp; omega
  · rw [old k (Nat.lt_of_lt_of_le hk h.fr.size)]; exact h.fr.block k hk hf
  · rcases hin i b hi with hi | ⟨_, rfl⟩
    · exact h.src i b hi k hk
    · rw [hnn k hk]; exact .inr h.fr.size
theorem List.set_get {α : Type _} {l : List α} {i j : Nat} {x y : α} (h : (l.set i x)[j]? = some y) : (j ≠ i ∧ l[j]? = some y) ∨ (j = i ∧ y = x ∧ i < l.length) := by
  rw [List.getElem?_set] at h
  split at h
  · rename_i e; subst e
    split at h
    · cases h; exact .inr ⟨rfl, rfl, by assumption⟩
    · cases h
  · rename_i e; exact .inl ⟨fun e' => e e'.symm, h⟩
theorem HeapOk.turn {w0 : World} {Hin H : HH} {w w' : World} (h : HeapOk w0 Hin H w) {id : Nat} {b : Blk} (hb : H[id]? = some b) (ho : b.own = true) (c : Cont)
    (hc : c.holds w' b.num) (hos : w'.os = w.os) (ht : w'.tape = w.tape) (hout : w'.output = w.output) (hsz : w'.heap.size = w.heap.size) (hk : ∀ k, k ≠ b.num → w'.heap[k]? = w.heap[k]?)
    (hcn : c.nums b.num = [b.num] := by rfl) (hbn : b.nums = [b.num] := by rfl) (hdr : Dr w w' := by first | exact Dr.of_le (Nat.le_refl _) | exact Dr.of_le (Nat.le_succ _) | exact Dr.of_le (by simp) | (apply Stored.dr; assumption)) :
    HeapOk w0 Hin (H.set id ⟨b.num, c, b.own⟩) w' := by
  have hnn : (⟨b.num, c, b.own⟩ : Blk).nums = b.nums := by rw [hbn]; exact hcn
  refine ⟨⟨fun i d hi => ?_, fun i j d e hi hj hij => ?_⟩, ⟨hos.trans h.fr.os, ht.trans h.fr.tape, hout.trans h.fr.output, by rw [hsz]; exact h.fr.size, fun k hk' hf => ?_, h.fr.dr.trans hdr⟩, fun i d hi => ?_⟩
  · rcases List.set_get hi with ⟨hne, hi⟩ | ⟨_, rfl, _⟩
    · refine Cont.holds_block (h.hp.all i d hi) (fun k hk2 => hk k (fun e => ?_))
      exact h.hp.apart i id d b hi hb hne k hk2 (by rw [hbn, e]; simp)
    · exact hc
  · rcases List.set_get hi with ⟨_, gi⟩ | ⟨gi, gd, _⟩ <;> rcases List.set_get hj with ⟨_, gj⟩ | ⟨gj, ge, _⟩
    · exact h.hp.apart i j d e gi gj hij
    · subst gj; subst ge; rw [hnn]; exact h.hp.apart i j d b gi hb hij
    · subst gi; subst gd; rw [hnn]; exact h.hp.apart i j b e hb gj hij
    · omega
  · by_cases hkn : k = b.num
    · subst hkn
      rcases h.ow id b hb ho b.num (by rw [hbn]; simp) with h1 | h1
      · omega
      · exact absurd h1 hf
    · rw [hk k hkn]; exact h.fr.block k hk' hf
  · rcases List.set_get hi with ⟨_, hi⟩ | ⟨_, rfl, _⟩
    · exact h.src i d hi
    · rw [hnn]; exact h.src id b hb
theorem HeapOk.more {w0 : World} {Hin H : HH} {w : World} (h : HeapOk w0 Hin H w) (b : Blk) (hn : b.nums = []) (hc : b.c.holds w b.num) : HeapOk w0 Hin (H ++ [b]) w := by
  have hin : ∀ (i : Nat) (d : Blk), (H ++ [b])[i]? = some d → H[i]? = some d ∨ d = b := by
    intro i d hi
    rw [List.getElem?_append] at hi
    split at hi
    · exact .inl hi
    · rename_i hlt
      by_cases he : i - H.length = 0
      · rw [he] at hi; simp at hi; exact .inr hi.symm
      · rw [List.getElem?_eq_none (by simp; omega)] at hi; cases hi
  refine ⟨⟨fun i d hi => ?_, fun i j d e hi hj hij k hk => ?_⟩, h.fr, fun i d hi k hk => ?_⟩
  · rcases hin i d hi with hi | rfl
    · exact h.hp.all i d hi
    · exact hc
  · by_cases hd : d.nums = []
    · rw [hd] at hk; cases hk
    by_cases he : e.nums = []
    · rw [he]; simp
    rcases hin i d hi with hi | rfl
    · rcases hin j e hj with hj | rfl
      · exact h.hp.apart i j d e hi hj hij k hk
      · exact absurd hn he
    · exact absurd hn hd
  · rcases hin i d hi with hi | rfl
    · exact h.src i d hi k hk
    · rw [hn] at hk; cases hk
theorem HeapOk.turnS {w0 : World} {Hin H : HH} {w w' : World} (h : HeapOk w0 Hin H w) {id : Nat} {b : Blk} (hb : H[id]? = some b) (ho : b.own = true) (b' : Blk) (hn : b'.nums = b.nums)
    (hc : b'.c.holds w' b'.num) (n0 : Nat) (hn0 : n0 ∈ b.nums) (hos : w'.os = w.os) (ht : w'.tape = w.tape) (hout : w'.output = w.output) (hsz : w'.heap.size = w.heap.size) (hk : ∀ k, k ≠ n0 → w'.heap[k]? = w.heap[k]?) (hdr : Dr w w' := by first | exact Dr.of_le (Nat.le_refl _) | exact Dr.of_le (Nat.le_succ _) | exact Dr.of_le (by simp) | (apply Stored.dr; assumption)) :
    HeapOk w0 Hin (H.set id b') w' := by
  refine ⟨⟨fun i d hi => ?_, fun i j d e hi hj hij => ?_⟩, ⟨hos.trans h.fr.os, ht.trans h.fr.tape, hout.trans h.fr.output, by rw [hsz]; exact h.fr.size, fun k hk' hf => ?_, h.fr.dr.trans hdr⟩, fun i d hi => ?_⟩
  · rcases List.set_get hi with ⟨hne, hi⟩ | ⟨_, rfl, _⟩
    · refine Cont.holds_block (h.hp.all i d hi) (fun k hk2 => hk k (fun e => ?_))
      exact h.hp.apart i id d b hi hb hne k hk2 (by rw [e]; exact hn0)
    · exact hc
  · rcases List.set_get hi with ⟨_, gi⟩ | ⟨gi, gd, _⟩ <;> rcases List.set_get hj with ⟨_, gj⟩ | ⟨gj, ge, _⟩
    · exact h.hp.apart i j d e gi gj hij
    · subst gj; subst ge; rw [hn]; exact h.hp.apart i j d b gi hb hij
    · subst gi; subst gd; rw [hn]; exact h.hp.apart i j b e hb gj hij
    · omega
  · by_cases hkn : k = n0
    · subst hkn
      rcases h.ow id b hb ho k hn0 with h1 | h1
      · omega
      · exact absurd h1 hf
    · rw [hk k hkn]; exact h.fr.block k hk' hf
  · rcases List.set_get hi with ⟨_, hi⟩ | ⟨_, rfl, _⟩
    · exact h.src i d hi
    · intro k hk
      rw [hn] at hk
      rcases h.src id b hb k hk with ⟨m, x, hm, hx, hxo⟩ | hx
      · exact .inl ⟨m, x, hm, hx, fun _ => hxo ho⟩
      · exact .inr hx
structure Ext (H H' : HH) (w w' : World) : Prop where
  hp : HoldsH H' w'
  fr : Frm (ownNums H) w w'
  src : Whence H H' w.heap.size
theorem Whence.trans {H0 H1 H2 : HH} {s1 s2 : Nat} (h1 : Whence H0 H1 s1) (h2 : Whence H1 H2 s2) (h : s1 ≤ s2) : Whence H0 H2 s1 := fun i b hi k hk => by
  rcases h2 i b hi k hk with ⟨j, d, hj, hn, hd⟩ | hn
  · rcases h1 j d hj k hn with ⟨m, x, hm, hx, hxo⟩ | hx
    · exact .inl ⟨m, x, hm, hx, fun o => hxo (hd o)⟩
    · exact .inr hx
  · exact .inr (Nat.le_trans h hn)
theorem HeapOk.ext {w0 : World} {Hin H H' : HH} {w w' : World} (h : HeapOk w0 Hin H w) (e : Ext H H' w w') : HeapOk w0 Hin H' w' := by
  refine ⟨e.hp, ⟨e.fr.os.trans h.fr.os, e.fr.tape.trans h.fr.tape, e.fr.output.trans h.fr.output, Nat.le_trans h.fr.size e.fr.size, fun k hk hf => ?_, h.fr.dr.trans e.fr.dr⟩, h.src.trans e.src h.fr.size⟩
  have hlt := Nat.lt_of_lt_of_le hk h.fr.size
  rw [e.fr.block k hlt (fun hm => ?_)]
  · exact h.fr.block k hk hf
  · obtain ⟨j, d, hj, hd, hn⟩ := mem_ownNums hm
    rcases h.ow j d hj hd k hn with h1 | h1
    · omega
    · exact hf h1
theorem HeapOk.toExt {w0 : World} {Hin H : HH} {w : World} (h : HeapOk w0 Hin H w) : Ext Hin H w0 w := ⟨h.hp, h.fr, h.src⟩
theorem HeapOk.enter {H : HH} {w : World} (h : HoldsH H w) : HeapOk w H H w := ⟨h, Frm.refl _ _, fun i b hi k hk => .inl ⟨i, b, hi, hk, id⟩⟩
def nth {α : Type _} : List α → Nat → Option α
  | [], _ => none
  | x :: _, 0 => some x
  | _ :: l, n + 1 => nth l n
theorem nth_eq {α : Type _} : ∀ (l : List α) (n : Nat), nth l n = l[n]?
  | [], _ => by simp [nth]
  | x :: l, 0 => by simp [nth]
  | x :: l, n + 1 => by simp [nth, nth_eq l n]
inductive Out where
  | ret (v : AV)
  | pan (v : AV)
abbrev HK := Out → HH → Prop
abbrev REx := TT → Nat → List Nat → Code → Code → List AV → Nat → Nat → HH → HK → Prop
abbrev RS := List REx
abbrev Handler := RS → List AV → HH → HK → Prop
def OutOk (K : HK) (H : HH) (w : World) : Ending → World → Prop
  | .returned x, w' => ∃ v H', x = v.den ∧ K (.ret v) H' ∧ Ext H H' w w'
  | .panicked ch, w' => ∃ v H', ch = [{ v := v.den, recovered := false }] ∧ K (.pan v) H' ∧ Ext H H' w w'
  | .outgrown, _ => False
def ReOk (P : Program) (re : REx) : Prop := ∀ T nt ps asg bdy args id num (H : HH) (K : HK) (w : World) lvl pend, HoldsH H w → nth H id = some ⟨num, .loopc lvl .ready pend T nt ps asg bdy, true⟩ →
  re T nt ps asg bdy args id num H K → ∀ r : Loop, w.heap[num]? = some (.loop r) → LoopIs r .ready pend T nt ps asg bdy →
    r.params.size = args.length ∧ RoundIn Fence.wide 0 P num r.fn ((r.params.zip (denL args).toArray).foldl (fun tmps (t, a) => tmps.setIfInBounds t a) r.tmps) r.assign r.body w (OutOk K H w)
def RsOk (P : Program) : RS → Prop
  | [] => True
  | re :: rs => ReOk P re ∧ RsOk P rs
def Enters (P : Program) (f : FuncId) : Prop := ∀ args w, (callFunc f args).run P w = .ok (.enter f args) w
structure HOk (P : Program) (f : FuncId) (h : Handler) : Prop where
  enters : Enters P f
  calls : ∀ rs, RsOk P rs → ∀ args H (K : HK) w, HoldsH H w → h rs args H K → Calls P f (denL args).toArray w (OutOk K H w)
structure LC (P : Program) (f : FuncId) (args : List AV) (Hin : HH) (R : AV → HH → Prop) : Prop where
  enters : Enters P f
  calls : ∀ w, HoldsH Hin w → Calls P f (denL args).toArray w fun e w' => ∃ v H', e = .returned v.den ∧ R v H' ∧ Ext Hin H' w w'
structure POk (P : Program) (f : FuncId) (F : List AV → Option AV) : Prop where
  enters : Enters P f
  calls : ∀ args v w, F args = some v → Calls P f (denL args).toArray w fun e w' => e = .returned v.den ∧ Frm [] w w'
theorem POk.of_lc {P : Program} {f : FuncId} {F : List AV → Option AV} (he : Enters P f) (h : ∀ args v, F args = some v → LC P f args [] fun r _ => r = v) : POk P f F := by
  refine ⟨he, fun args v w hv => ((h args v hv).calls w ⟨fun i b hi => by simp at hi, fun i j b c hi => by simp at hi⟩).mono fun e w' hq => ?_⟩
  obtain ⟨r, H', rfl, rfl, hx⟩ := hq
  exact ⟨rfl, by simpa [ownNums] using hx.fr⟩
structure PrOk (P : Program) (f : FuncId) (F : List AV → Option (Prop × AV)) : Prop where
  enters : Enters P f
  calls : ∀ args p w, F args = some p → p.1 → Calls P f (denL args).toArray w fun e w' => e = .returned p.2.den ∧ Frm [] w w'
theorem PrOk.of_lc {P : Program} {f : FuncId} {F : List AV → Option (Prop × AV)} (he : Enters P f) (h : ∀ args p, F args = some p → p.1 → LC P f args [] fun r _ => r = p.2) : PrOk P f F := by
  refine ⟨he, fun args p w hv hp => ((h args p hv hp).calls w ⟨fun i b hi => by simp at hi, fun i j b c hi => by simp at hi⟩).mono fun e w' hq => ?_⟩
  obtain ⟨r, H', rfl, rfl, hx⟩ := hq
  exact ⟨rfl, by simpa [ownNums] using hx.fr⟩
structure XOk (P : Program) (f : FuncId) (h : List AV → HH → (AV → HH → Prop) → Prop) : Prop where
  calls : ∀ args H (K : AV → HH → Prop) w, HoldsH H w → h args H K → ∃ v H' w', (callFunc f (denL args).toArray).run P w = .ok (.value v.den) w' ∧ K v H' ∧ Ext H H' w w'
inductive Hd where
  | pure (F : List AV → Option AV)
  | pre (F : List AV → Option (Prop × AV))
  | gen (h : Handler)
  | ext (h : List AV → HH → (AV → HH → Prop) → Prop)
  | dt (α : Type) (d : DT α)
def HdOk (P : Program) (f : FuncId) : Hd → Prop
  | .pure F => POk P f F
  | .pre F => PrOk P f F
  | .gen h => HOk P f h
  | .ext h => XOk P f h
  | .dt _ d => d.Ok
abbrev Tbl := List (Nat × Hd)
def TblOk (P : Program) : Tbl → Prop
  | [] => True
  | (f, h) :: r => HdOk P f h ∧ TblOk P r
def Tbl.get : Tbl → Nat → Option Hd
  | [], _ => none
  | (k, h) :: r, f => if k = f then some h else Tbl.get r f
theorem TblOk.get {P : Program} : ∀ {tbl : Tbl}, TblOk P tbl → ∀ {f : Nat} {h : Hd}, tbl.get f = some h → HdOk P f h
  | [], _, _, _, h => by simp [Tbl.get] at h
  | (k, j) :: r, ⟨h1, h2⟩, f, h, e => by
    simp only [Tbl.get] at e
    split at e
    · rename_i e'; subst e'; cases e; exact h1
    · exact TblOk.get h2 e
theorem Frm.holds {w w' : World} (h : Frm [] w w') {n : Nat} {c : Cont} (hc : c.holds w n) : c.holds w' n := Cont.holds_block hc (fun k hk => h.block k (Cont.holds_lt hc k hk) (by simp))
theorem HeapOk.pure {w0 : World} {Hin H : HH} {w w' : World} (h : HeapOk w0 Hin H w) (f : Frm [] w w') : HeapOk w0 Hin H w' :=
  ⟨⟨fun i b hi => f.holds (h.hp.all i b hi), h.hp.apart⟩, ⟨f.os.trans h.fr.os, f.tape.trans h.fr.tape, f.output.trans h.fr.output, Nat.le_trans h.fr.size f.size, fun k hk hf => by rw [f.block k (Nat.lt_of_lt_of_le hk h.fr.size) (by simp)]; exact h.fr.block k hk hf, h.fr.dr.trans f.dr⟩, h.src⟩
def br (c : Bool) (A B : Prop) : Prop :=
  match c with
  | true => A
  | false => B
theorem br_intro {c : Bool} {A B : Prop} (h1 : c = true → A) (h2 : c = false → B) : br c A B := by cases c <;> simp_all [br]
@[simp] theorem br_true {A B : Prop} : br true A B = A := rfl
@[simp] theorem br_false {A B : Prop} : br false A B = B := rfl
theorem brT {A B : Prop} (h : A) : br true A B := h
theorem brF {A B : Prop} (h : B) : br false A B := h
theorem br_iff {c : Bool} {A B : Prop} : br c A B ↔ (c = true → A) ∧ (c = false → B) := by cases c <;> simp [br]
def partK (tab : Tab) (t : TypeId) (x : AV) (K : AV → Prop) : Prop :=
  match partAV tab t [x] 0 with
  | some v => K v
  | none => False
def textsK (tab : Tab) (t : TypeId) (id m n o i oo L : Nat) (g : Nat → RW) (F : Nat → Nat → ByteArray) (full : Bool) (K : AV → Prop) : Prop :=
  match tab.get t with
  | some ⟨_, _, _, .slice _, _⟩ => n = m ∧ o = oo ∧ i < L ∧ (match full with | true => partK tab t (.vl id (g i).n (g i).o 0 1 (g i).len (g i).cap) K | false => partK tab t (.os id (g i).a (g i).n (g i).o 0 1 (g i).len (g i).cap) K)
  | some ⟨_, _, _, .str, _⟩ => ∃ q, q < L ∧ n = (g q).n ∧ o = (g q).o ∧ i < (g q).len ∧ partK tab t (.v (.string (F q i))) K
  | _ => False
def focK (tab : Tab) {α : Type} (d : DT α) (l : List α) (t i j : Nat) (foc : Option (Nat × List AV)) (K : AV → Prop) : Prop :=
  match foc with
  | none => (match partAV tab t (d.enc (dAt l d.z i)) j with | some v => K v | none => False)
  | some (f, fv) => i = f ∧ (match partAV tab t fv j with | some v => K v | none => False)
def Blk.reads (b : Blk) (n : Nat) (c : List AV) : Prop := ∀ w, b.c.holds w b.num → ∃ (ty : TypeId) (fz : Nat × Nat), w.heap[n]? = some (.cells (denL c).toArray ty fz)
def kpOk (H : HH) (id n : Nat) (c : List AV) : Prop := ∃ b, nth H id = some b ∧ b.reads n c
def mixK (tab : Tab) (t : TypeId) (o B N : Nat) (bs : Nat → Bool) (is : Nat → Int) (K : AV → Prop) : Prop :=
  match tab.get t with
  | some ⟨_, _, _, .bool, _⟩ => o < B ∧ o < N ∧ partK tab t (.v (.bool (bs o))) K
  | some ⟨_, _, _, .int .i64, _⟩ => B ≤ o ∧ o < N ∧ partK tab t (.v (.int .i64 (is o))) K
  | _ => False
def allZ : List AV → Bool
  | [] => true
  | .v (.int .i64 (.ofNat 0)) :: l => allZ l
  | _ => false
def splitZ : List AV → Option Nat
  | .v (.bool false) :: l => (match splitZ l with | some k => some (k + 1) | none => none)
  | l => (match allZ l with | true => some 0 | false => none)
def newC (tab : Tab) (H : HH) (l : List AV) (e : TypeId) : Cont :=
  match tab.get e with
  | none => .cells l e
  | some i =>
    match Nat.ble i.sz 64 with
    | true => .cells l e
    | false =>
      match nth H 2 with
      | some ⟨_, .mape _ _ _ _ _ _, _⟩ =>
        (match Nat.beq l.length i.sz, splitZ l with
         | true, some k => .mix k i.sz (fun _ => false) (fun _ => 0) e
         | _, _ => .cells l e)
      | _ => .cells l e
theorem allZ_get : ∀ {l : List AV}, allZ l = true → ∀ {o : Nat}, o < l.length → l[o]? = some (.v (.int .i64 0))
  | [], _, o, h => by simp at h
  | a :: l, hz, o, h => by
    unfold allZ at hz
    split at hz
    · rename_i e; cases e
    · rename_i l' e
      cases e
      cases o with
      | zero => rfl
      | succ o => simp only [List.getElem?_cons_succ]; exact allZ_get hz (by simpa using h)
    · cases hz
theorem splitZ_get : ∀ {l : List AV} {k : Nat}, splitZ l = some k → ∀ {o : Nat}, o < l.length → l[o]? = some (if o < k then .v (.bool false) else .v (.int .i64 0))
  | [], k, hz, o, h => by simp at h
  | a :: l, k, hz, o, h => by
    unfold splitZ at hz
    split at hz
    · rename_i l' e
      cases e
      split at hz
      · rename_i k' hk
        cases hz
        cases o with
        | zero => simp
        | succ o =>
          simp only [List.getElem?_cons_succ]
          rw [splitZ_get hk (by simpa using h)]
          simp
      · cases hz
    · split at hz
      · rename_i hall
        cases hz
        simp [allZ_get hall h]
      · cases hz
theorem newC_nums {tab : Tab} {H : HH} {l : List AV} {e : TypeId} {n : Nat} : (newC tab H l e).nums n = [n] := by
  unfold newC
  split
  · rfl
  · split
    · rfl
    · split
      · split <;> rfl
      · rfl
theorem newC_holds {tab : Tab} {H : HH} {l : List AV} {e : TypeId} {w : World} {n : Nat} (h : (Cont.cells l e).holds w n) : (newC tab H l e).holds w n := by
  unfold newC
  split
  · exact h
  · split
    · exact h
    · split
      · split
        · rename_i k hl hk
          refine ⟨_, h, by rw [denL_length]; exact Nat.eq_of_beq_eq_true hl, fun o ho => ?_⟩
          have hl := Nat.eq_of_beq_eq_true hl
          have := denL_get (splitZ_get hk (o := o) (by omega))
          rw [this]
          by_cases hok : o < k
          · simp [hok, AV.den]
          · simp [hok, AV.den]
        · exact h
      · exact h
def mixS (x : AV) (o B N : Nat) (bs : Nat → Bool) (is : Nat → Int) (K : (Nat → Bool) → (Nat → Int) → Prop) : Prop :=
  match x with
  | .v (.bool b) => o < B ∧ o < N ∧ K (upd bs o b) is
  | .v (.int .i64 n) => B ≤ o ∧ o < N ∧ K bs (upd is o n)
  | _ => False
def loadK (tab : Tab) (H : HH) (t : TypeId) (p : AV) (K : AV → Prop) : Prop :=
  match p with
  | .ptr id n o =>
    match nth H id with
    | some ⟨m, .cells l _, _⟩ => n = m ∧ (match partAV tab t l o with | some v => K v | none => False)
    | some ⟨m, .mix B N bs is _, _⟩ => n = m ∧ mixK tab t o B N bs is K
    | _ => False
  | .ep id n i sz j =>
    match nth H id with
    | some ⟨m, .rows N cs _, _⟩ => ck (Nat.beq sz cs.length) <| n = m ∧ i < N ∧ (match partAV tab t (rowOf cs i) j with | some v => K v | none => False)
    | some ⟨m, .cells l _, _⟩ => n = m ∧ (match partAV tab t l (i * sz + j) with | some v => K v | none => False)
    | _ => False
  | .vp id n o i sz j =>
    match nth H id with
    | some ⟨m, .view o' N cs, _⟩ => ck (Nat.beq sz cs.length) <| n = m ∧ o = o' ∧ i < N ∧ (match partAV tab t (rowOf cs i) j with | some v => K v | none => False)
    | some ⟨m, .lst o' N cs _ _, _⟩ => ck (Nat.beq sz cs.length) <| n = m ∧ o = o' ∧ i < N ∧ (match partAV tab t (rowOf cs i) j with | some v => K v | none => False)
    | some ⟨m, .dl _ d o' l _ _ foc, _⟩ => ck (Nat.beq sz d.sz) <| n = m ∧ o = o' ∧ i < l.length ∧ focK tab d l t i j foc K
    | some ⟨m, .texts oo L g F _ full, _⟩ => ck (Nat.beq sz 1 && Nat.beq j 0) <| textsK tab t id m n o i oo L g F full K
    | _ => False
  | .kp id n o c => kpOk H id n c ∧ (match partAV tab t c o with | some v => K v | none => False)
  | _ => False
def splice : List AV → Nat → List AV → List AV
  | l, _, [] => l
  | l, o, x :: xs => splice (l.set o x) (o + 1) xs
@[simp] theorem splice_length : ∀ (xs l : List AV) (o : Nat), (splice l o xs).length = l.length
  | [], _, _ => rfl
  | x :: xs, l, o => by simp [splice, splice_length xs]
def Col.set : Col → Nat → AV → Option Col
  | .ints k g, r, .v (.int k' n) => match sameK k k' with | true => some (.ints k (upd g r n)) | false => none
  | .strs g, r, .v (.string s) => some (.strs (upd g r s))
  | .bools g, r, .v (.bool b) => some (.bools (upd g r b))
  | .slcs g, r, .v (.slice a l c) => some (.slcs (upd g r ⟨a, l, c⟩))
  | .slcs g, r, x => some (.any (upd (fun i => .v (.slice (g i).a (g i).len (g i).cap)) r x))
  | .any g, r, x => some (.any (upd g r x))
  | _, _, _ => none
def setCols : List Col → Nat → Nat → List AV → Option (List Col)
  | cs, _, _, [] => some cs
  | [], _, _, _ :: _ => none
  | c :: cs, r, 0, x :: xs =>
    match c.set r x, setCols cs r 0 xs with
    | some c', some cs' => some (c' :: cs')
    | _, _ => none
  | c :: cs, r, j + 1, x :: xs =>
    match setCols cs r j (x :: xs) with
    | some cs' => some (c :: cs')
    | none => none
theorem Col.set_at {c c' : Col} {r : Nat} {x : AV} (h : c.set r x = some c') : c'.at r = x ∧ ∀ q, q ≠ r → c'.at q = c.at q := by
  unfold Col.set at h
  split at h
  · split at h
    · rename_i k g r' k' n hk
      cases h
      obtain rfl := sameK_eq hk
      exact ⟨by simp [Col.at, upd], fun q hq => by simp [Col.at, upd, hq]⟩
    · cases h
  · cases h; exact ⟨by simp [Col.at, upd], fun q hq => by simp [Col.at, upd, hq]⟩
  · cases h; exact ⟨by simp [Col.at, upd], fun q hq => by simp [Col.at, upd, hq]⟩
  · cases h; exact ⟨by simp [Col.at, upd], fun q hq => by simp [Col.at, upd, hq]⟩
  · cases h; exact ⟨by simp [Col.at, upd], fun q hq => by simp [Col.at, upd, hq]⟩
  · cases h; exact ⟨by simp [Col.at, upd], fun q hq => by simp [Col.at, upd, hq]⟩
  · cases h
theorem splice_cons (y : AV) : ∀ (xs l : List AV) (o : Nat), splice (y :: l) (o + 1) xs = y :: splice l o xs
  | [], l, o => rfl
  | x :: xs, l, o => by simp only [splice, List.set_cons_succ]; exact splice_cons y xs _ _
theorem setCols_row : ∀ {cs cs' : List Col} {r j : Nat} {xs : List AV}, setCols cs r j xs = some cs' →
    cs'.length = cs.length ∧ rowOf cs' r = splice (rowOf cs r) j xs ∧ ∀ q, q ≠ r → rowOf cs' q = rowOf cs q
  | cs, cs', r, j, [], h => by
    have : some cs = some cs' := by cases cs <;> cases j <;> simpa [setCols] using h
    cases this
    exact ⟨rfl, rfl, fun _ _ => rfl⟩
  | [], cs', r, j, x :: xs, h => by simp [setCols] at h
  | c :: cs, cs', r, 0, x :: xs, h => by
    simp only [setCols] at h
    split at h
    · rename_i c' cs'' hc hcs
      cases h
      obtain ⟨h1, h2, h3⟩ := setCols_row hcs
      obtain ⟨g1, g2⟩ := Col.set_at hc
      refine ⟨by simp [h1], ?_, fun q hq => by simp [rowOf, g2 q hq, h3 q hq]⟩
      simp only [rowOf, splice, List.set_cons_zero, g1, h2]
      exact (splice_cons _ _ _ _).symm
    · cases h
  | c :: cs, cs', r, j + 1, x :: xs, h => by
    simp only [setCols] at h
    split at h
    · rename_i cs'' hcs
      cases h
      obtain ⟨h1, h2, h3⟩ := setCols_row hcs
      refine ⟨by simp [h1], ?_, fun q hq => by simp [rowOf, h3 q hq]⟩
      simp only [rowOf, h2]
      exact (splice_cons _ _ _ _).symm
    · cases h
def storeK (tab : Tab) (H : HH) (t : TypeId) (p x : AV) (K : HH → Prop) : Prop :=
  match tab.get t with
  | none => False
  | some i =>
    ck (Nat.beq x.cells.length i.sz && x.cells.all AV.one) <|
    match p with
    | .ptr id n o =>
      match nth H id with
      | some ⟨m, .cells l ty, own⟩ => ck (own && Nat.ble (o + i.sz) l.length) <| n = m ∧ K (H.set id ⟨m, .cells (splice l o x.cells) ty, own⟩)
      | some ⟨m, .mix B N bs is ty, own⟩ => ck own <| n = m ∧ mixS x o B N bs is (fun bs' is' => K (H.set id ⟨m, .mix B N bs' is' ty, own⟩))
      | _ => False
    | .ep id n r sz j =>
      match nth H id with
      | some ⟨m, .rows N cs ty, own⟩ => ck (own && Nat.beq sz cs.length && Nat.ble (j + i.sz) sz) <| n = m ∧ r < N ∧ (match setCols cs r j x.cells with | some cs' => K (H.set id ⟨m, .rows N cs' ty, own⟩) | none => False)
      | some ⟨m, .cells l ty, own⟩ => ck (own && Nat.ble (r * sz + j + i.sz) l.length) <| n = m ∧ K (H.set id ⟨m, .cells (splice l (r * sz + j) x.cells) ty, own⟩)
      | _ => False
    | .vp id n o r sz j =>
      match nth H id with
      | some ⟨m, .lst o' N cs S (some (c, ty)), own⟩ => ck (own && Nat.beq sz cs.length && Nat.ble (j + i.sz) sz) <| n = m ∧ o = o' ∧ r < N ∧ (match setCols cs r j x.cells with | some cs' => K (H.set id ⟨m, .lst o' N cs' S (some (c, ty)), own⟩) | none => False)
      | some ⟨m, .dl α d o' l S (some (c, ty)) foc, own⟩ => ck (own && Nat.beq sz d.sz && Nat.ble (j + i.sz) sz) <| n = m ∧ o = o' ∧ r < l.length ∧ (match d.dec (splice (d.enc (dAt l d.z r)) j x.cells) with | some a => K (H.set id ⟨m, .dl α d o' (l.set r a) S (some (c, ty)) none, own⟩) | none => False)
      | _ => False
    | _ => False
def lenK (d : Option TI) (args : List AV) (K : AV → Prop) : Prop :=
  match d, args with
  | some ⟨_, _, _, .str, _⟩, [.v (.string s)] => K (.v (.int .i64 s.size))
  | some ⟨_, _, _, .slice _, _⟩, [.v (.slice _ n _)] => K (.v (.int .i64 n))
  | some ⟨_, _, _, .slice _, _⟩, [.sl _ _ _ _ n _] => K (.v (.int .i64 n))
  | some ⟨_, _, _, .slice _, _⟩, [.vl _ _ _ _ _ n _] => K (.v (.int .i64 n))
  | some ⟨_, _, _, .slice _, _⟩, [.os _ _ _ _ _ _ n _] => K (.v (.int .i64 n))
  | some ⟨_, _, _, .arr n _, _⟩, [_] => K (.v (.int .i64 n))
  | _, _ => False
def pureB (tab : Tab) (b : Builtin) (at_ : List TypeId) (args : List AV) (K : AV → Prop) : Prop :=
  match b with
  | .len => (match at_ with | [t] => lenK (tab.get t) args K | _ => False)
  | .min =>
    match args with
    | [.v (.int k a), .v (.int _ b)] => K (.v (.int k (if b < a then b else a)))
    | [.v (.int k a), .v (.int _ b), .v (.int _ c)] => K (.v (.int k (if c < (if b < a then b else a) then c else (if b < a then b else a))))
    | _ => False
  | .max =>
    match args with
    | [.v (.int k a), .v (.int _ b)] => K (.v (.int k (if b > a then b else a)))
    | [.v (.int k a), .v (.int _ b), .v (.int _ c)] => K (.v (.int k (if c > (if b > a then b else a) then c else (if b > a then b else a))))
    | _ => False
  | .cap =>
    match at_ with
    | [t] =>
      match tab.get t, args with
      | some ⟨_, _, _, .slice _, _⟩, [.v (.slice _ _ c)] => K (.v (.int .i64 c))
      | some ⟨_, _, _, .slice _, _⟩, [.sl _ _ _ _ _ c] => K (.v (.int .i64 c))
      | some ⟨_, _, _, .slice _, _⟩, [.vl _ _ _ _ _ _ c] => K (.v (.int .i64 c))
      | some ⟨_, _, _, .slice _, _⟩, [.os _ _ _ _ _ _ _ c] => K (.v (.int .i64 c))
      | _, _ => False
    | _ => False
  | _ => False
def byteAt (s : ByteArray) (i : Nat) : Int := ((s.data.toList[i]?).getD 0).toNat
def u8s : List AV → Option (List Int)
  | [] => some []
  | .v (.int .u8 n) :: l => (match u8s l with | some r => some (n :: r) | none => none)
  | _ => none
def readK (tab : Tab) (H : HH) (s : TypeId) (id n r sz len : Nat) (K : ByteArray → Prop) : Prop :=
  match tab.get s with
  | some ⟨_, _, _, .slice e, _⟩ =>
    (match tab.get e with
     | some ⟨_, _, _, .int .u8, _⟩ => ck (Nat.beq sz 1) <|
       (match nth H id with
        | some ⟨m, .cells l _, _⟩ => n = m ∧ (match u8s ((l.drop r).take len) with | some xs => ck (Nat.beq xs.length len) (K (mkI xs)) | none => False)
        | some ⟨m, .rows N [.ints .u8 g] _, _⟩ => n = m ∧ r + len ≤ N ∧ K (mkI ((List.range len).map fun i => g (r + i)))
        | some ⟨m, .buf S _ _, _⟩ => n = m ∧ r + len ≤ S.size ∧ K (subS S r (r + len))
        | _ => False)
     | _ => False)
  | _ => False
def readO (tab : Tab) (H : HH) (s : TypeId) (id n o r sz len : Nat) (K : ByteArray → Prop) : Prop :=
  match tab.get s with
  | some ⟨_, _, _, .slice e, _⟩ =>
    (match tab.get e with
     | some ⟨_, _, _, .int .u8, _⟩ => ck (Nat.beq sz 1) <|
       (match nth H id with
        | some ⟨m, .lst o' N [.ints .u8 g] _ _, _⟩ => n = m ∧ o = o' ∧ r + len ≤ N ∧ K (mkI ((List.range len).map fun i => g (r + i)))
        | _ => False)
     | _ => False)
  | _ => False
def newCells (z : List AV) (n : Nat) : List AV := (List.range (n * z.length)).map fun i => (z[i % z.length]?).getD (.v undef)
def fillK (sz : Nat) : List AV → List (Nat × AV) → (List AV → Prop) → Prop
  | z, [], K => K z
  | z, (i, v) :: rest, K => ck (Nat.beq v.cells.length sz && v.cells.all AV.one && Nat.ble (i * sz + sz) z.length) (fillK sz (splice z (i * sz) v.cells) rest K)
def boundsK (len cap : Nat) (l h m : Option Int) (K : Nat → Nat → Nat → Prop) : Prop :=
  match m with
  | none =>
    match h with
    | none => (match l with | none => K 0 len cap | some a => (0 ≤ a ∧ a ≤ len) ∧ len ≤ cap ∧ K a.toNat len cap)
    | some b => (0 ≤ b ∧ b ≤ cap) ∧ (match l with | none => K 0 b.toNat cap | some a => (0 ≤ a ∧ a ≤ b) ∧ K a.toNat b.toNat cap)
  | some c =>
    match h with
    | none => False
    | some b => (0 ≤ c ∧ c ≤ cap) ∧ (0 ≤ b ∧ b ≤ c) ∧ (match l with | none => K 0 b.toNat c.toNat | some a => (0 ≤ a ∧ a ≤ b) ∧ K a.toNat b.toNat c.toNat)
def evalI (T : TT) (x : Option Operand) (K : Option Int → Prop) : Prop :=
  match x with
  | none => K none
  | some x => evalK T x fun p => match p with | .v (.int _ i) => K (some i) | _ => False
def isNilC : Operand → Bool
  | .const .nilIface | .const (.pointer none) | .const (.map none) | .const (.slice none _ _) => true
  | _ => false
def nilOf : TD → Operand → AV → Option Bool
  | .iface, .const .nilIface, .v .nilIface => some true
  | .iface, .const .nilIface, .ifc _ _ => some false
  | .ptr _, .const (.pointer none), .v (.pointer none) => some true
  | .ptr _, .const (.pointer none), .ptr _ _ _ => some false
  | .ptr _, .const (.pointer none), .ep _ _ _ _ _ => some false
  | .slice _, .const (.slice none _ _), .v (.slice none _ _) => some true
  | .slice _, .const (.slice none _ _), .sl _ _ _ _ _ _ => some false
  | .slice _, .const (.slice none _ _), .vl _ _ _ _ _ _ _ => some false
  | .ptr _, .const (.pointer none), .vp _ _ _ _ _ _ => some false
  | .ptr _, .const (.pointer none), .kp _ _ _ _ => some false
  | .ptr _, .const (.pointer none), .pp _ p => some p.isNone
  | .map _ _, .const (.map none), .v (.map none) => some true
  | .map _ _, .const (.map none), .mp _ _ => some false
  | _, _, _ => none
def zeroC : Option Operand → Bool
  | some (.const (.int _ (.ofNat 0))) => true
  | _ => false
def notIface : TD → Bool
  | .iface | .other => false
  | _ => true
def offN (c a r : Nat) : Nat := if c = a then r else r + a
def offB (c a b r : Nat) : Nat := if a = 0 then r else if a < b then r + a else offN c a r
theorem offB_eq {c a b r : Nat} (h : a = 0 ∨ b ≤ c) : offB c a b r = offN c a r := by
  unfold offB offN
  by_cases h0 : a = 0
  · subst h0; simp
  · rw [if_neg h0]
    by_cases h1 : a < b
    · rw [if_pos h1, if_neg (by omega)]
    · rw [if_neg h1]
def pureK (tab : Tab) (T : TT) (o : Op) (K : AV → Prop) : Prop :=
  match o with
  | .move x | .assign x => evalK T x K
  | .fieldAddr s x f => evalK T x fun p =>
    match tab.get s with
    | some ⟨_, _, _, .struct fs, _⟩ =>
      match nth fs f with
      | some (off, ty) =>
        match tab.get ty with
        | some i => ck (!Nat.beq i.sz 0) (match p with
          | .ptr id n o => K (.ptr id n (o + off))
          | .ep id n r sz j => K (.ep id n r sz (j + off))
          | .vp id n o r sz j => K (.vp id n o r sz (j + off))
          | .kp id n o c => K (.kp id n (o + off) c)
          | _ => False)
        | none => False
      | none => False
    | _ => False
  | .field t x f => evalK T x fun p =>
    match tab.get t, p with
    | some ⟨_, _, _, .struct fs, _⟩, .agg l =>
      match nth fs f with
      | some (off, ty) => (match partAV tab ty l off with | some v => K v | none => False)
      | none => False
    | _, _ => False
  | .makeInterface t x => evalK T x fun p => match tab.get t with | some i => ck (notIface i.d) (K (.ifc t p)) | none => False
  | .typeAssert x _ t ok => evalK T x fun p => (match tab.get t with
    | some i => ck (notIface i.d) (match p with
      | .ifc u y => (match ok, Nat.beq u t with
        | true, true => K (.tup [y, .v (.bool true)])
        | true, false => K (.tup [i.zero, .v (.bool false)])
        | false, true => K y
        | false, false => False)
      | .v .nilIface => (match ok with | true => K (.tup [i.zero, .v (.bool false)]) | false => False)
      | _ => False)
    | none => False)
  | .extract x ix => evalK T x fun p =>
    match p with
    | .tup l => (match nth l ix with | some v => K v | none => False)
    | _ => False
  | .binOp op t x y _ => evalK T x fun a =>
    match isNilC y with
    | true =>
      (match tab.get t with
       | some i =>
         (match op, nilOf i.d y a with
          | .eql, some b => K (.v (.bool b))
          | .neq, some b => K (.v (.bool (!b)))
          | _, _ => False)
       | none => False)
    | false => evalK T y fun b => binK tab op t a b K
  | .unOp .not _ x => evalK T x fun p => match p with | .v (.bool b) => K (.v (.bool (!b))) | _ => False
  | .unOp .neg _ x => evalK T x fun p => match p with | .v (.int k n) => K (.v (.int k (k.wrap (0 - n)))) | _ => False
  | .nilCheck x => evalK T x fun p => match p with
    | .ptr .. | .ep .. | .vp .. | .kp .. => K p
    | .fn (.func _) _ _ => K p
    | .yl _ _ => K p
    | _ => False
  | .makeFunc f first cap => evalL T first.toList fun a => evalL T cap.toList fun b => K (.fn f a b)
  | .convert s d x => evalK T x fun p =>
    match tab.get s, tab.get d, p with
    | some ⟨_, _, _, .int _, _⟩, some ⟨_, _, _, .int k, _⟩, .v (.int _ n) => K (.v (.int k (k.wrap n)))
    | some ⟨_, _, _, .str, _⟩, some ⟨_, _, _, .str, _⟩, .v (.string b) => K (.v (.string b))
    | some ⟨_, _, _, .int _, _⟩, some ⟨_, _, _, .str, _⟩, .v (.int _ n) => K (.v (.string (Utf8.encode n)))
    | some ⟨_, _, _, .slice e, _⟩, some ⟨_, _, _, .str, _⟩, .v (.slice none _ _) => (match tab.get e with
      | some ⟨_, _, _, .int .u8, _⟩ => K (.v (.string (ByteArray.mk #[])))
      | _ => False)
    | _, _, _ => False
  | .slice t x lo hi mx => evalK T x fun p => evalI T lo fun l => evalI T hi fun h => evalI T mx fun m =>
    match tab.get t, p with
    | some ⟨_, _, _, .str, _⟩, .v (.string s) => (match m with | none => boundsK s.size s.size l h none fun a b _ => K (.v (.string (subS s a b))) | some _ => False)
    | some ⟨_, _, _, .slice e, _⟩, .sl id n r sz len cap =>
      (match tab.get e with
       | some ei => ck (Nat.beq ei.sz sz) <| boundsK len cap l h m fun a b c => K (.sl id n (offB c a b r) sz (b - a) (c - a))
       | none => False)
    | some ⟨_, _, _, .slice e, _⟩, .vl id n o r sz len cap =>
      (match tab.get e with
       | some ei => ck (Nat.beq ei.sz sz) <| boundsK len cap l h m fun a b c => K (.vl id n o (offB c a b r) sz (b - a) (c - a))
       | none => False)
    | some ⟨_, _, _, .slice e, _⟩, .os id _ n o r sz len cap =>
      (match tab.get e with
       | some ei => ck (Nat.beq ei.sz sz) <| (match zeroC mx with
         | true => boundsK len cap l h m fun _ _ _ => ∀ a', K (.v (.slice a' 0 0))
         | false => boundsK len cap l h m fun a b c => b ≤ len ∧ ∀ a', (a = 0 → 0 < len → a' = some ⟨n, o + r * sz, none⟩) → K (.os id a' n o (r + a) sz (b - a) (c - a)))
       | none => False)
    | some ⟨_, _, _, .slice e, _⟩, .v (.slice none len cap) =>
      (match tab.get e with
       | some _ => boundsK len cap l h m fun a b c => K (.v (.slice none (b - a) (c - a)))
       | none => False)
    | some ⟨_, _, _, .slice e, _⟩, .v (.slice (some ad) 0 cap) =>
      (match tab.get e with
       | some _ => boundsK 0 cap l h m fun a b c => a = 0 ∧ K (.v (.slice (some ad) b c))
       | none => False)
    | some ⟨_, _, _, .arr n e, _⟩, .ptr id k 0 =>
      (match tab.get e with
       | some ei => boundsK n n l h m fun a b c => K (.sl id k (offB c a b 0) ei.sz (b - a) (c - a))
       | none => False)
    | _, _ => False
  | .index t x ix => evalK T x fun p => evalK T ix fun q =>
    match tab.get t, p, q with
    | some ⟨_, _, _, .str, _⟩, .v (.string s), .v (.int _ i) => (0 ≤ i ∧ i < s.size) ∧ K (.v (.int .u8 (byteAt s i.toNat)))
    | some ⟨_, _, _, .arr n e, _⟩, .agg l, .v (.int _ i) => (match tab.get e with | some ei => (0 ≤ i ∧ i < n) ∧ (match partAV tab e l (i.toNat * ei.sz) with | some v => K v | none => False) | none => False)
    | _, _, _ => False
  | .indexAddr t x ix => evalK T x fun p => evalK T ix fun q =>
    match tab.get t, p, q with
    | some ⟨_, _, _, .slice e, _⟩, .sl id n r sz len _, .v (.int _ i) =>
      match tab.get e with
      | some ei => ck (Nat.beq ei.sz sz) <| (0 ≤ i ∧ i < len) ∧ K (.ep id n (r + i.toNat) sz 0)
      | none => False
    | some ⟨_, _, _, .slice e, _⟩, .vl id n o r sz len _, .v (.int _ i) =>
      match tab.get e with
      | some ei => ck (Nat.beq ei.sz sz) <| (0 ≤ i ∧ i < len) ∧ K (.vp id n o (r + i.toNat) sz 0)
      | none => False
    | some ⟨_, _, _, .slice e, _⟩, .os id _ n o r sz len _, .v (.int _ i) =>
      match tab.get e with
      | some ei => ck (Nat.beq ei.sz sz) <| (0 ≤ i ∧ i < len) ∧ K (.vp id n o (r + i.toNat) sz 0)
      | none => False
    | some ⟨_, _, _, .arr len e, _⟩, .ptr id n o, .v (.int _ i) =>
      match tab.get e with
      | some ei => (0 ≤ i ∧ i < len) ∧ K (.ptr id n (o + i.toNat * ei.sz))
      | none => False
    | some ⟨_, _, _, .arr len e, _⟩, .ep id n r 1 0, .v (.int _ i) =>
      match tab.get e with
      | some ei => (0 ≤ i ∧ i < len) ∧ K (.ep id n (r + i.toNat * ei.sz) 1 0)
      | none => False
    | _, _, _ => False
  | .call c => (match c.callee with | .builtin b => evalL T c.args.toList fun vs => pureB tab b c.argTypes.toList vs K | _ => False)
  | .build t parts => evalL T (parts.toList.map (·.2)) fun vs =>
    match tab.get t with
    | some ⟨_, _, .agg z, .struct fs, _⟩ => buildK tab fs z ((parts.toList.map (·.1)).zip vs) K
    | some ⟨_, _, .agg z, .arr _ e, _⟩ => (match tab.get e with | some ei => fillK ei.sz z ((parts.toList.map (·.1)).zip vs) fun l => K (.agg l) | none => False)
    | _ => False
  | _ => False
where
  buildK (tab : Tab) (fs : List (Nat × Nat)) : List AV → List (Nat × AV) → (AV → Prop) → Prop
    | z, [], K => K (.agg z)
    | z, (i, v) :: rest, K =>
      match nth fs i with
      | some (off, ty) =>
        match tab.get ty with
        | some ti => ck (Nat.beq v.cells.length ti.sz && v.cells.all AV.one && Nat.ble (off + ti.sz) z.length) (buildK tab fs (splice z off v.cells) rest K)
        | none => False
      | none => False
end Go.Eng
