import Derived.Test.YthnkafambegbcaaEngP
import Derived.Lib.Builder
import Derived.Lib.UnsafeStr
import Derived.Lib.MakeNoZero
import Derived.Laws.IdiomCopy
import Derived.Laws.Externs
set_option linter.unusedSimpArgs false
set_option linter.unusedVariables false
namespace Go.Eng
open Go Go.Sp
theorem dl (s : ByteArray) : s.data.toList.length = s.size := Array.length_toList
theorem size_mkS (l : List UInt8) : (mkS l).size = l.length := by rw [← dl]; rfl
theorem size_catS (a b : ByteArray) : (catS a b).size = a.size + b.size := by rw [catS, size_mkS, List.length_append, dl, dl]
theorem catS_nilR (a : ByteArray) (b : ByteArray) (h : b.size = 0) : catS a b = a := by
  have : b.data.toList = [] := List.eq_nil_of_length_eq_zero (by rw [dl]; exact h)
  apply ByteArray.ext; apply Array.ext'
  simp only [catS, mkS, this, List.append_nil, Array.toArray_toList]
theorem byteAt_cells (s : ByteArray) : (byteCells s) = (List.range s.size).map fun i => Value.int .u8 (byteAt s i) := by
  apply List.ext_getElem?
  intro i
  simp only [byteCells, List.getElem?_map]
  by_cases h : i < s.size
  · have h' : i < s.data.toList.length := by rw [dl]; exact h
    have h2 : i < s.data.size := h
    rw [List.getElem?_eq_getElem h', List.getElem?_range h]
    simp [byteAt, Array.getElem?_eq_getElem h2]
  · have h' : ¬ i < s.data.toList.length := by rw [dl]; exact h
    rw [List.getElem?_eq_none (by omega), List.getElem?_eq_none (by simp; omega)]
    rfl
theorem byteCells_get {s : ByteArray} {i : Nat} (h : i < s.size) : (byteCells s)[i]? = some (.int .u8 (byteAt s i)) := by
  rw [byteAt_cells, List.getElem?_map, List.getElem?_range h]; rfl
theorem byteAt_cat (a b : ByteArray) (i : Nat) : byteAt (catS a b) i = if i < a.size then byteAt a i else byteAt b (i - a.size) := by
  unfold byteAt catS mkS
  have e : a.data.toList.length = a.size := dl a
  simp only [List.getElem?_append, e]
  split <;> rfl
def srcB (tab : Tab) (H : HH) (tx : TypeId) (x : AV) (K : ByteArray → Prop) : Prop :=
  match tab.get tx, x with
  | some ⟨_, _, _, .str, _⟩, .v (.string s) => K s
  | some ⟨_, _, _, .slice _, _⟩, .v (.slice none 0 _) => K (mkS [])
  | some ⟨_, _, _, .slice _, _⟩, .sl id n r sz k _ => ck (Nat.beq sz 1) <|
    (match nth H id with
     | some ⟨m, .cells l _, _⟩ => n = m ∧ (match u8s ((l.drop r).take k) with | some xs => ck (Nat.beq xs.length k) ((∀ v ∈ xs, 0 ≤ v ∧ v ≤ 255) ∧ K (mkI xs)) | none => False)
     | some ⟨m, .rows N [.ints .u8 g] _, _⟩ => n = m ∧ r + k ≤ N ∧ (∀ i, i < k → 0 ≤ g (r + i) ∧ g (r + i) ≤ 255) ∧ K (mkI ((List.range k).map fun i => g (r + i)))
     | some ⟨m, .buf S _ _, _⟩ => n = m ∧ r + k ≤ S.size ∧ K (subS S r (r + k))
     | _ => False)
  | _, _ => False
theorem mkI_cells {xs : List Int} (h : ∀ v ∈ xs, 0 ≤ v ∧ v ≤ 255) : byteCells (mkI xs) = xs.map (Value.int .u8) := by
  simp only [mkI, mkS, byteCells, List.map_map]
  apply List.map_congr_left
  intro v hv
  have := h v hv
  simp only [Function.comp]
  congr 1
  have e : (UInt8.ofNat v.toNat).toNat = v.toNat := by rw [UInt8.toNat_ofNat']; omega
  rw [e]; omega
theorem subS_get (S : ByteArray) (r k i : Nat) (h : i < k) : (subS S r (r + k)).data.toList[i]? = S.data.toList[r + i]? := by
  simp only [subS, mkS]
  rw [show r + k - r = k by omega, List.getElem?_take, if_pos h, List.getElem?_drop]
theorem srcB_sound {P : Program} {tab : Tab} (ht : TabOk P tab) {H : HH} {tx : Nat} {x : AV} {K : ByteArray → Prop} (h : srcB tab H tx x K) :
    ∃ B, K B ∧ ∀ w, HoldsH H w → Src P 1 tx x.den B.size (byteCells B) w := by
  unfold srcB at h
  split at h
  · rename_i _ s htx
    have hk := (ht.get htx).desc
    simp only [DescOk] at hk
    exact ⟨s, h, fun w _ => Src.ofString w hk s⟩
  · rename_i e _ cap htx
    have hk := (ht.get htx).desc
    simp only [DescOk] at hk
    exact ⟨_, h, fun w _ => Src.ofNil (size := 1) w hk cap⟩
  · rename_i e _ id n r sz k cap htx
    have hk := (ht.get htx).desc
    simp only [DescOk] at hk
    have g_ := ck_spec h
    clear h
    obtain ⟨hsz, h⟩ := g_
    obtain rfl := Nat.eq_of_beq_eq_true hsz
    split at h
    · rename_i m l ty own hb
      obtain ⟨rfl, h⟩ := h
      split at h
      · rename_i xs hxs
        have g_ := ck_spec h
        clear h
        obtain ⟨hl, hr, h⟩ := g_
        have hl := Nat.eq_of_beq_eq_true hl
        refine ⟨_, h, fun w hw => ?_⟩
        rw [nth_eq] at hb
        have hc := hw.all id _ hb
        simp only [Cont.holds] at hc
        rw [mkI_cells hr]
        have hsize : (mkI xs).size = k := by simp [mkI, size_mkS, hl]
        rw [hsize]
        refine Src.ofSlice w hk ⟨n, r * 1, none⟩ k cap _ (by simp [hl]) (fun j u hu => ?_) (fun u hu => ?_)
        · rw [addr_add, cell_of hc]
          rw [← u8s_den hxs, denL_map, List.map_take, List.map_drop, List.getElem?_take] at hu
          split at hu
          · rw [List.getElem?_drop] at hu
            simp only [denL_map]
            rw [Nat.mul_one]
            exact hu
          · cases hu
        · obtain ⟨v, _, rfl⟩ := List.mem_map.1 hu
          rfl
      · exact h.elim
    · rename_i m N g ty own hb
      obtain ⟨rfl, hrk, hr, h⟩ := h
      refine ⟨_, h, fun w hw => ?_⟩
      rw [nth_eq] at hb
      obtain ⟨c, hc, hcs, hcc⟩ := hw.all id _ hb
      rw [mkI_cells (fun v hv => by
        obtain ⟨i, hi, rfl⟩ := List.mem_map.1 hv
        exact hr i (by simpa using hi))]
      have hsize : (mkI ((List.range k).map fun i => g (r + i))).size = k := by simp [mkI, size_mkS]
      rw [hsize]
      refine Src.ofSlice w hk ⟨n, r * 1, none⟩ k cap _ (by simp) (fun j u hu => ?_) (fun u hu => ?_)
      · rw [addr_add, cell_of hc]
        have hj : j < k := by
          rcases Nat.lt_or_ge j k with h1 | h1
          · exact h1
          · rw [List.getElem?_eq_none (by simp; omega)] at hu; cases hu
        rw [List.map_map, List.getElem?_map, List.getElem?_range hj] at hu
        simp only [Option.map_some, Function.comp, Option.some.injEq] at hu
        subst hu
        have := hcc (r + j) (by omega) 0 (.v (.int .u8 (g (r + j)))) (by simp [rowOf, Col.at])
        simpa [AV.den] using this
      · obtain ⟨v, _, rfl⟩ := List.mem_map.1 hu
        rfl
    · rename_i m S c ty own hb
      obtain ⟨rfl, hrk, h⟩ := h
      refine ⟨_, h, fun w hw => ?_⟩
      rw [nth_eq] at hb
      obtain ⟨c', fz, hc, hcl, _, _, _, _, hcc⟩ := hw.all id _ hb
      have hsize : (subS S r (r + k)).size = k := by
        have := dl S
        simp only [subS, size_mkS, List.length_take, List.length_drop]
        omega
      have hbk : ∀ i, i < k → byteAt (subS S r (r + k)) i = byteAt S (r + i) := fun i hi => by
        unfold byteAt; rw [subS_get S r k i hi]
      rw [hsize]
      refine Src.ofSlice w hk ⟨n, r * 1, none⟩ k cap _ (by rw [byteAt_cells]; simp [hsize]) (fun j u hu => ?_) (fun u hu => ?_)
      · have hj : j < k := by
          rcases Nat.lt_or_ge j k with h1 | h1
          · exact h1
          · rw [List.getElem?_eq_none (by rw [byteAt_cells]; simp [hsize]; omega)] at hu; cases hu
        rw [byteCells_get (by rw [hsize]; exact hj)] at hu
        cases hu
        rw [addr_add, hbk j hj]
        have := hcc (r + j) (by omega)
        simp only [World.cell?, hc, byteAt]
        simpa using this
      · rw [byteAt_cells] at hu
        obtain ⟨v, _, rfl⟩ := List.mem_map.1 hu
        rfl
    · exact h.elim
  · exact h.elim
def isBuf (tab : Tab) (H : HH) (at_ : List TypeId) (vs : List AV) : Bool :=
  match at_, vs with
  | [t, _], [s, _] =>
    match tab.get t with
    | some ⟨_, _, _, .slice e, _⟩ =>
      match tab.get e with
      | some ⟨_, _, _, .int .u8, _⟩ =>
        match s with
        | .v (.slice none 0 0) => true
        | .sl id _ _ _ _ _ => (match nth H id with | some ⟨_, .buf _ _ _, _⟩ => true | _ => false)
        | _ => false
      | _ => false
    | _ => false
  | _, _ => false
def roomB (ei : TI) (n : Nat) : Prop := n ≤ 9223372036854775807 ∧ (n + n / 4 + 192) * ei.bytes ≤ 281474976710656
def appendBK (tab : Tab) (H : HH) (at_ : List TypeId) (args : List AV) (K : AV → HH → Prop) : Prop :=
  match at_, args with
  | [t, tx], [s, x] =>
    match tab.get t with
    | some ⟨_, _, _, .slice e, _⟩ =>
      (match tab.get e with
       | some ei => ck (Nat.beq ei.sz 1 && (match ei.d with | .int .u8 => true | _ => false)) <| srcB tab H tx x fun B =>
         match s with
         | .v (.slice none 0 0) => br (Nat.beq B.size 0) (K (.v (.slice none 0 0)) H) (roomB ei B.size ∧ ∀ n c, B.size ≤ c → K (.sl H.length n 0 1 B.size c) (H ++ [⟨n, .buf B c e, true⟩]))
         | .sl id n 0 1 len cap =>
           (match nth H id with
            | some ⟨m, .buf S c ty, true⟩ => ck (Nat.beq ty e) <| n = m ∧ len = S.size ∧ cap = c ∧ roomB ei (S.size + B.size) ∧
              ∀ n' c', (catS S B).size ≤ c' → K (.sl id n' 0 1 (catS S B).size c') (H.set id ⟨n', .buf (catS S B) c' e, true⟩)
            | _ => False)
         | _ => False
       | none => False)
    | _ => False
  | _, _ => False
theorem HeapOk.replace {w0 : World} {Hin H : HH} {w : World} (h : HeapOk w0 Hin H w) {id : Nat} {b : Blk} (hb : H[id]? = some b) (o : Obj) (c : Cont) (hc : c.holds (w.alloc o) w.heap.size) (hcn : c.nums w.heap.size = [w.heap.size] := by rfl) :
    HeapOk w0 Hin (H.set id ⟨w.heap.size, c, true⟩) (w.alloc o) := by
  have hnn : ∀ k ∈ (⟨w.heap.size, c, true⟩ : Blk).nums, k = w.heap.size := fun k hk => by
    simp only [Blk.nums, hcn, List.mem_singleton] at hk
    exact hk
  have old : ∀ k, k < w.heap.size → (w.alloc o).heap[k]? = w.heap[k]? := fun k hk => Go.RowKit.Below.heap_alloc _ _ _ hk
  refine ⟨⟨fun i d hi => ?_, fun i j d e hi hj hij k hk => ?_⟩, ⟨h.fr.os, h.fr.tape, h.fr.output, ?_, fun k hk hf => ?_, h.fr.dr⟩, fun i d hi k hk => ?_⟩
  · rcases List.set_get hi with ⟨_, hi⟩ | ⟨_, rfl, _⟩
    · exact Cont.holds_block (h.hp.all i d hi) (fun k hk => old _ (Cont.holds_lt (h.hp.all i d hi) k hk))
    · exact hc
  · rcases List.set_get hi with ⟨_, gi⟩ | ⟨gi, gd, _⟩ <;> rcases List.set_get hj with ⟨_, gj⟩ | ⟨gj, ge, _⟩
    · exact h.hp.apart i j d e gi gj hij k hk
    · subst ge; intro hk2; have := Cont.holds_lt (h.hp.all i d gi) k hk; have := hnn k hk2; omega
    · subst gd; intro hk2; have := Cont.holds_lt (h.hp.all j e gj) k hk2; have := hnn k hk; omega
    · omega
  · have := h.fr.size; simp; omega
  · rw [old k (Nat.lt_of_lt_of_le hk h.fr.size)]; exact h.fr.block k hk hf
  · rcases List.set_get hi with ⟨_, hi⟩ | ⟨_, rfl, _⟩
    · exact h.src i d hi k hk
    · rw [hnn k hk]; exact .inr h.fr.size
theorem setCells_dr (n : Nat) : ∀ (xs : List Value) (o : Nat) (w : World), (w.setCells n o xs).drawn = w.drawn
  | [], o, w => by simp [World.setCells]
  | x :: xs, o, w => by
    have e : w.setCells n o (x :: xs) = (w.setCell ⟨n, o, none⟩ x).setCells n (o + 1) xs := rfl
    rw [e, setCells_dr n xs]; rfl
theorem setCells_block {w : World} {n o : Nat} {c : List Value} {ty : TypeId} {fz : Nat × Nat} (h : w.heap[n]? = some (.cells c.toArray ty fz)) : ∀ (xs : List Value) (o : Nat) (w : World) (c : List Value), w.heap[n]? = some (.cells c.toArray ty fz) →
    (w.setCells n o xs).heap[n]? = some (.cells (spliceV c o xs).toArray ty fz) ∧ (w.setCells n o xs).os = w.os ∧ (w.setCells n o xs).tape = w.tape ∧ (w.setCells n o xs).output = w.output ∧ (w.setCells n o xs).heap.size = w.heap.size ∧ ∀ k, k ≠ n → (w.setCells n o xs).heap[k]? = w.heap[k]?
  | [], o, w, c, h => ⟨by simpa [World.setCells, spliceV] using h, by simp [World.setCells], by simp [World.setCells], by simp [World.setCells], by simp [World.setCells], fun k _ => by simp [World.setCells]⟩
  | x :: xs, o, w, c, h => by
    have h1 : (w.setCell ⟨n, o, none⟩ x).heap[n]? = some (.cells (c.set o x).toArray ty fz) := by
      simp [World.setCell, Array.getElem?_modify, h]
    obtain ⟨g1, g2, g3, g4, g5, g6⟩ := setCells_block (o := o) h1 xs (o + 1) (w.setCell ⟨n, o, none⟩ x) (c.set o x) h1
    have e : w.setCells n o (x :: xs) = (w.setCell ⟨n, o, none⟩ x).setCells n (o + 1) xs := rfl
    rw [e]
    refine ⟨by simpa [spliceV] using g1, g2, g3, g4, ?_, fun k hk => ?_⟩
    · rw [g5]; simp [World.setCell]
    · rw [g6 k hk]; exact Go.RowKit.Below.heap_setCell _ _ _ _ (by simpa using hk)
theorem appendBK_sound {P : Program} {tab : Tab} (ht : TabOk P tab) {w0 : World} {fp H : HH} {w : World} (hh : HeapOk w0 fp H w) {at_ : Array TypeId} {args : List AV} {K : AV → HH → Prop} (h : appendBK tab H at_.toList args K) (ty : TypeId) :
    ∃ v H' w', K v H' ∧ HeapOk w0 fp H' w' ∧ (Builtin.append_ at_ ty (denL args).toArray).run P w = .ok v.den w' := by
  unfold appendBK at h
  split at h
  · rename_i t tx s x hat
    have hat' : at_ = #[t, tx] := by apply Array.ext'; simpa using hat
    subst hat'
    split at h
    · rename_i e _ htt
      have hte := (ht.get htt).desc
      simp only [DescOk] at hte
      split at h
      · rename_i ei hei
        have g_ := ck_spec h
        clear h
        obtain ⟨hck, h⟩ := g_
        simp only [Bool.and_eq_true] at hck
        obtain ⟨hsz1, _⟩ := hck
        have hsz1 := Nat.eq_of_beq_eq_true hsz1
        obtain ⟨info, hx, hxz, hxs, hxb⟩ := (ht.get hei).info'
        obtain ⟨B, h, hsrc⟩ := srcB_sound ht h
        have hs := hsrc w hh.hp
        have hs' : Src P info.size tx x.den B.size (byteCells B) w := by rw [hxs, hsz1]; exact hs
        have hlB : (byteCells B).length = B.size := by rw [byteAt_cells]; simp
        split at h
        · cases hk : Nat.beq B.size 0
          · rw [hk, br_false] at h
            obtain ⟨⟨r1, r2⟩, h⟩ := h
            have hk0 : B.size ≠ 0 := by intro e'; rw [e'] at hk; cases hk
            have hg : (0 : Nat) < 0 + B.size := by omega
            have hfit := growslice_fits_wide (bytes := ei.bytes) hg (by simpa using r2)
            have hrun := run_append_grow_src w t tx ty e info ei.zero.den hte hx hxz none 0 0 [] (run_firstCells_none w.drew info.size 0 0 0) x.den B.size _ hs' hg (by simp; omega) (by rw [hxb]; exact hfit)
            have hcap := grownCap_ge w (0 + B.size) 0 e
            generalize grownCap w (0 + B.size) 0 e = C at hrun hcap
            have hh1 : HeapOk w0 fp H w.drew := hh.same { heap := rfl, os := rfl, tape := rfl, output := rfl }
            refine ⟨_, _, w.drew.alloc (.cells (([] ++ byteCells B).toArray ++ Builtin.zeroCells ei.zero.den.cells (C - (0 + B.size))) e), h w.heap.size C (by omega), hh1.alloc _ _ ?_, by simpa [denL, AV.den] using hrun⟩
            refine ⟨(([] ++ byteCells B).toArray ++ Builtin.zeroCells ei.zero.den.cells (C - (0 + B.size))).toList, (0, 0), by rw [Array.toArray_toList]; exact alloc_at w.drew _, ?_, by omega, ?_, r1, .inl rfl, fun i hi => ?_⟩
            · have : ei.zero.den.cells.size = 1 := by
                have hzl := (ht.get hei).zsz
                have hzc := AV.cells_den (ht.get hei).zok
                have : ei.zero.den.cells.toList.length = 1 := by rw [hzc]; simp [hzl, hsz1]
                simpa using this
              have hz := zeroCells_den ei.zero.cells (C - (0 + B.size))
              have hzc' : ei.zero.den.cells = (denL ei.zero.cells).toArray := by rw [← AV.cells_den (ht.get hei).zok]
              rw [Array.toList_append, hzc', hz]
              simp [hlB, newCells_length, (ht.get hei).zsz, hsz1]
              omega
            · omega
            · rw [Array.toList_append, List.nil_append, List.getElem?_append_left (by rw [hlB]; exact hi)]
              exact byteCells_get hi
          · rw [hk, br_true] at h
            have hk0 := Nat.eq_of_beq_eq_true hk
            have hn0 : byteCells B = [] := List.eq_nil_of_length_eq_zero (by rw [hlB, hk0])
            rw [hk0, hn0] at hs'
            have := run_append_nothing w t tx ty e info hte hx none 0 0 (Nat.le_refl _) x.den hs'
            exact ⟨_, H, w, h, hh, by simpa [denL, AV.den] using this⟩
        · rename_i id n len cap _
          split at h
          · rename_i m S c ty' hb
            have g_ := ck_spec h
            clear h
            obtain ⟨hty, rfl, rfl, rfl, ⟨r1, r2⟩, h⟩ := g_
            obtain rfl : e = ty' := (Nat.eq_of_beq_eq_true hty).symm
            rw [nth_eq] at hb
            obtain ⟨cs, fz, hc, hcl, hSc, hc1, _, hfz, hcc⟩ := hh.hp.all id _ hb
            have hcell : ∀ j, w.cell? ⟨n, j, none⟩ = cs[j]? := fun j => by simp [World.cell?, hc]
            have hfrz : ∀ j, S.size ≤ j → w.frozen? ⟨n, j, none⟩ = false := fun j hj => by
              obtain ⟨lo, hi⟩ := fz
              simp only [World.frozen?, hc]
              simp only [] at hfz
              rcases hfz with hfz | hfz
              · simp; omega
              · simp; omega
            rcases Nat.lt_or_ge cap (S.size + B.size) with hlt | hge
            · -- a new row
              have hfit := growslice_fits_wide (bytes := ei.bytes) hlt r2
              have hol : ((cs.take S.size)).length = S.size * info.size := by rw [hxs, hsz1]; simp; omega
              have hrun := run_append_grow_src w t tx ty e info ei.zero.den hte hx hxz (some ⟨n, 0, none⟩) S.size cap (cs.take S.size)
                (run_firstCells_some w.drew info.size S.size ⟨n, 0, none⟩ S.size cap _ hol (fun j u hu => by
                  rw [addr_add, Nat.zero_add]
                  have : w.drew.cell? ⟨n, j, none⟩ = cs[j]? := hcell j
                  rw [this]
                  rw [List.getElem?_take] at hu
                  split at hu
                  · exact hu
                  · cases hu)) x.den B.size _ hs' hlt (by simp; omega) (by rw [hxb]; exact hfit)
              have hcap := grownCap_ge w (S.size + B.size) cap e
              generalize grownCap w (S.size + B.size) cap e = C at hrun hcap
              have hh1 : HeapOk w0 fp H w.drew := hh.same { heap := rfl, os := rfl, tape := rfl, output := rfl }
              refine ⟨_, _, w.drew.alloc (.cells ((cs.take S.size ++ byteCells B).toArray ++ Builtin.zeroCells ei.zero.den.cells (C - (S.size + B.size))) e), h w.heap.size C (by rw [size_catS]; exact hcap), hh1.replace hb _ _ ?_, by simpa [denL, AV.den, size_catS] using hrun⟩
              refine ⟨((cs.take S.size ++ byteCells B).toArray ++ Builtin.zeroCells ei.zero.den.cells (C - (S.size + B.size))).toList, (0, 0), by rw [Array.toArray_toList]; exact alloc_at w.drew _, ?_, by rw [size_catS]; omega, ?_, by rw [size_catS]; exact r1, .inl rfl, fun i hi => ?_⟩
              · have hz := zeroCells_den ei.zero.cells (C - (S.size + B.size))
                have hzc' : ei.zero.den.cells = (denL ei.zero.cells).toArray := by rw [← AV.cells_den (ht.get hei).zok]
                rw [Array.toList_append, hzc', hz]
                simp [hlB, newCells_length, (ht.get hei).zsz, hsz1]
                omega
              · omega
              · rw [size_catS] at hi
                show _ = some (Value.int .u8 (byteAt (catS S B) i))
                rw [byteAt_cat]
                have e1 : (cs.take S.size).length = S.size := by simp; omega
                rw [Array.toList_append, List.getElem?_append_left (by simp [e1, hlB]; omega)]
                simp only [List.getElem?_append, e1]
                by_cases hiS : i < S.size
                · rw [if_pos hiS, if_pos hiS, List.getElem?_take, if_pos hiS]
                  exact hcc i hiS
                · rw [if_neg hiS, if_neg hiS]
                  exact byteCells_get (by omega)
            · -- in its place
              rcases Nat.eq_zero_or_pos B.size with hB0 | hB0
              · have hn0 : byteCells B = [] := List.eq_nil_of_length_eq_zero (by rw [hlB, hB0])
                rw [hB0, hn0] at hs'
                have hrun := run_append_nothing w t tx ty e info hte hx (some ⟨n, 0, none⟩) S.size cap (by omega) x.den hs'
                have e0 : catS S B = S := catS_nilR S B hB0
                have h1 := h n cap (by rw [e0]; omega)
                rw [e0] at h1
                refine ⟨_, _, w, h1, ?_, by simpa [denL, AV.den] using hrun⟩
                have e1 : H.set id ⟨n, .buf S cap e, true⟩ = H := by
                  apply List.ext_getElem?
                  intro j
                  rw [List.getElem?_set]
                  split
                  · rename_i ej; subst ej
                    split
                    · rw [hb]
                    · rename_i hl; rw [List.getElem?_eq_none (by omega)] at hb; cases hb
                  · rfl
                rw [e1]; exact hh
              · have hone : ∀ v ∈ byteCells B, v.oneCell' = true := hs.one
                have hrun := run_append_room_src w t tx ty e info hte hx n 0 S.size cap x.den B.size _ hs' (by omega)
                  (fun j hj => by rw [hxs, hsz1, hcell]; simp; omega) (fun j hj => by rw [hxs, hsz1]; exact hfrz _ (by omega))
                rw [hxs, hsz1] at hrun
                simp only [Nat.zero_add, Nat.mul_one] at hrun
                obtain ⟨k1, k2, k3, k4, k5, k6⟩ := setCells_block (o := 0) hc (byteCells B) S.size w cs hc
                refine ⟨_, _, _, h n cap (by rw [size_catS]; omega), ?_, by simpa [denL, AV.den, size_catS] using hrun⟩
                refine hh.turn hb rfl (.buf (catS S B) cap e) ?_ k2 k3 k4 k5 k6 (hdr := Dr.of_le (Nat.le_of_eq (setCells_dr n _ _ _).symm))
                refine ⟨_, fz, k1, by simp [hcl], by rw [size_catS]; omega, hc1, by rw [size_catS]; exact r1, hfz.imp _root_.id (fun hf => by rw [size_catS]; omega), fun i hi => ?_⟩
                rw [size_catS] at hi
                show _ = some (Value.int .u8 (byteAt (catS S B) i))
                rw [byteAt_cat, spliceV_get _ _ _ _ (by rw [hlB]; omega), hlB]
                by_cases hiS : i < S.size
                · rw [if_pos hiS, if_neg (by omega)]
                  exact hcc i hiS
                · rw [if_neg hiS, if_pos (by omega)]
                  exact byteCells_get (by omega)
          · exact h.elim
        · exact h.elim
      · exact h.elim
    · exact h.elim
  · exact h.elim
def isU : TD → TD → Bool
  | .ptr _, .uptr => true
  | .uptr, .ptr _ => true
  | _, _ => false
def uconvK (tab : Tab) (H : HH) (si di : TI) (p : AV) (A : Prop) : Prop :=
  match si.d, di.d, p with
  | .ptr e, .uptr, .ptr id n o =>
    (match tab.get e, nth H id with
     | some ei, some ⟨m, .cells l _, _⟩ => ck (!Nat.beq ei.sz 0 && Nat.blt o l.length) (n = m ∧ A)
     | _, _ => False)
  | .uptr, .ptr u, .ptr id n 0 =>
    (match tab.get u, nth H id with
     | some ui, some ⟨m, .cells l ty, _⟩ => ck (Nat.beq ty u && Nat.beq l.length ui.sz && !Nat.beq ui.sz 0) (n = m ∧ A)
     | _, _ => False)
  | _, _, _ => False
theorem Held.shape {w : World} {n : Nat} {c : List Value} {ty : TypeId} (h : Held w n c ty) : w.shape? n = some (ty, c.length) := by
  obtain ⟨fz, h, _⟩ := h
  simp [World.shape?, h]
theorem liesAt_self {P : Program} {t : TypeId} {k : Nat} (hk : k ≠ 0) (hc : P.cellsOf t = k) : liesAt P P.depth t (k / P.cellsOf t) 0 t 1 = true := by
  have hd : P.depth = (2 * (P.types.size + Made.depth) + 1) + 1 := rfl
  rw [hc, Nat.div_self (by omega), hd]
  simp only [liesAt, Bool.or_eq_true]
  left
  rw [hd]
  simp [rowAt, hc, hk, sameLayout]
theorem uconvK_sound {P : Program} {tab : Tab} (ht : TabOk P tab) {H : HH} {s d : Nat} {si di : TI} (hsi : tab.get s = some si) (hdi : tab.get d = some di) {p : AV} {A : Prop} (h : uconvK tab H si di p A) :
    ∃ id b o n, nth H id = some b ∧ p = .ptr id n o ∧ A ∧ ∀ w, b.c.holds w b.num → (convert s d p.den).run P w = .ok p.den w := by
  have hs := (ht.get hsi).desc
  have hd := (ht.get hdi).desc
  unfold uconvK at h
  split at h
  · rename_i e id n o hse hde
    rw [hse] at hs; rw [hde] at hd
    simp only [DescOk] at hs hd
    split at h
    · rename_i ei m l ty own hei hb
      have g_ := ck_spec h
      clear h
      obtain ⟨hck, rfl, h⟩ := g_
      simp only [Bool.and_eq_true, Bool.not_eq_true'] at hck
      obtain ⟨h1, h2⟩ := hck
      have h1 : ei.sz ≠ 0 := by intro e'; rw [e'] at h1; cases h1
      have h2 : o < l.length := by simpa [Nat.blt_eq] using h2
      obtain ⟨x, hx, _, hxs, _⟩ := (ht.get hei).info'
      refine ⟨id, _, o, n, hb, rfl, h, fun w hc => ?_⟩
      simp only [Cont.holds] at hc
      exact Lib.run_to_unsafe w ⟨n, o, none⟩ hs hd hx (by rw [hxs]; exact h1) hc.shape (by simpa using h2)
    · exact h.elim
  · rename_i u id n hse hde
    rw [hse] at hs; rw [hde] at hd
    simp only [DescOk] at hs hd
    split at h
    · rename_i ui m l ty own hui hb
      have g_ := ck_spec h
      clear h
      obtain ⟨hck, rfl, h⟩ := g_
      simp only [Bool.and_eq_true, Bool.not_eq_true'] at hck
      obtain ⟨⟨h1, h2⟩, h3⟩ := hck
      obtain rfl := Nat.eq_of_beq_eq_true h1
      have h2 := Nat.eq_of_beq_eq_true h2
      have h3 : ui.sz ≠ 0 := by intro e'; rw [e'] at h3; cases h3
      obtain ⟨x, hx, _, hxs, _⟩ := (ht.get hui).info'
      have hcell : P.cellsOf ty = ui.sz := by simp [Program.cellsOf, hx, hxs]
      refine ⟨id, _, 0, n, hb, rfl, h, fun w hc => ?_⟩
      simp only [Cont.holds] at hc
      refine Lib.run_from_unsafe w ⟨n, 0, none⟩ hs hd hx hc.shape ?_
      simp only [denL_length, h2]
      exact liesAt_self h3 hcell
    · exact h.elim
  · exact h.elim
def uStrK (tab : Tab) (H : HH) (at_ : List TypeId) (vs : List AV) (K : AV → Prop) : Prop :=
  match at_, vs with
  | [pt, _], [.ep id n 0 1 0, .v (.int .i64 len)] =>
    (match tab.get pt, nth H id with
     | some ⟨_, _, _, .ptr e, _⟩, some ⟨m, .buf S _ ty, true⟩ =>
       (match tab.get e with
        | some ei => ck (Nat.beq ty e && Nat.beq ei.sz 1) (n = m ∧ len = S.size ∧ K (.v (.string S)))
        | none => False)
     | _, _ => False)
  | [_, _], [.v (.pointer none), .v (.int .i64 0)] => K (.v (.string ByteArray.empty))
  | _, _ => False
theorem uStrK_sound {P : Program} {tab : Tab} (ht : TabOk P tab) {w0 : World} {fp H : HH} {w : World} (hh : HeapOk w0 fp H w) {at_ : Array TypeId} {vs : List AV} {K : AV → Prop} (h : uStrK tab H at_.toList vs K) (ty : TypeId) :
    ∃ v w', K v ∧ HeapOk w0 fp H w' ∧ (Builtin.unsafeString_ at_ ty (denL vs).toArray).run P w = .ok v.den w' := by
  unfold uStrK at h
  split at h
  · rename_i pt it id n len hat
    have hat' : at_ = #[pt, it] := by apply Array.ext'; simpa using hat
    subst hat'
    split at h
    · rename_i e _ m S c ty' hpt hb
      have hp := (ht.get hpt).desc
      simp only [DescOk] at hp
      split at h
      · rename_i ei hei
        have g_ := ck_spec h
        clear h
        obtain ⟨hck, rfl, rfl, h⟩ := g_
        simp only [Bool.and_eq_true] at hck
        obtain ⟨h1, h2⟩ := hck
        obtain rfl := Nat.eq_of_beq_eq_true h1
        have h2 := Nat.eq_of_beq_eq_true h2
        obtain ⟨x, hx, _, hxs, _⟩ := (ht.get hei).info'
        have hcell : P.cellsOf ty' = 1 := by simp [Program.cellsOf, hx, hxs, h2]
        rw [nth_eq] at hb
        obtain ⟨cs, fz, hc, hcl, hSc, hc1, h63, hfz, hcc⟩ := hh.hp.all id _ hb
        have hlen : S.data.toList.length = S.size := Array.length_toList
        rcases Nat.eq_zero_or_pos S.size with h0 | h0
        · have hS : S = ByteArray.empty := by
            apply ByteArray.ext; apply Array.ext'
            have : S.data.toList = [] := List.eq_nil_of_length_eq_zero (by rw [hlen, h0])
            simpa using this
          refine ⟨_, w, h, hh, ?_⟩
          have := Lib.run_unsafeString_none (P := P) (w := w) pt it ty (some ⟨n, 0 * 1 + 0, none⟩)
          rw [h0]
          subst hS
          simpa [denL, AV.den] using this
        · have hne : S.data.toList ≠ [] := by intro e'; rw [e'] at hlen; simp at hlen; omega
          have hrun := Lib.run_unsafeString_row (P := P) (w := w) pt it ty ty' hp hcell n cs.length (by simp [World.shape?, hc]) S.data.toList hne (by rw [hlen, hcl]; exact hSc) (by rw [hlen]; exact h63)
            (fun j b hj => by
              have hjl : j < S.size := by
                rw [← hlen]
                rcases Nat.lt_or_ge j S.data.toList.length with h | h
                · exact h
                · rw [List.getElem?_eq_none h] at hj; cases hj
              rw [addr_add, Nat.zero_add]
              have := hcc j hjl
              simp only [World.cell?, hc]
              simpa [byteAt, hj] using this)
          rw [hlen] at hrun
          refine ⟨.v (.string S), w.freeze ⟨n, 0, none⟩ S.size, h, ?_, by simpa [denL, AV.den] using hrun⟩
          have hlt : n < w.heap.size := lt_of_some hc
          have hfr : (w.freeze ⟨n, 0, none⟩ S.size).heap[n]? = some (.cells cs.toArray ty' (if fz.1 == fz.2 then (0, 0 + S.size) else (min fz.1 0, max fz.2 (0 + S.size)))) := by
            obtain ⟨lo, hi⟩ := fz
            simp [World.freeze, show S.size ≠ 0 by omega, Array.getElem?_modify, hc]
          have := hh.turn (w' := w.freeze ⟨n, 0, none⟩ S.size) hb rfl (.buf S c ty') ⟨cs, _, hfr, hcl, hSc, hc1, h63, ?_, hcc⟩ (by simp only [World.freeze]; split <;> rfl) (by simp only [World.freeze]; split <;> rfl) (by simp only [World.freeze]; split <;> rfl)
            (by simp only [World.freeze]; split <;> simp) (fun k hk => by simp only [World.freeze]; split <;> simp [Array.getElem?_modify, Ne.symm hk]) (hdr := Dr.of_le (by simp only [World.freeze]; split <;> exact Nat.le_refl _))
          · have e1 : H.set id ⟨n, .buf S c ty', true⟩ = H := by
              apply List.ext_getElem?
              intro j
              rw [List.getElem?_set]
              split
              · rename_i ej; subst ej
                split
                · rw [hb]
                · rename_i hl; rw [List.getElem?_eq_none (by omega)] at hb; cases hb
              · rfl
            rw [e1] at this; exact this
          · obtain ⟨lo, hi⟩ := fz
            right
            simp only [] at hfz ⊢
            split
            · simp
            · rename_i hne'
              have : lo ≠ hi := by simpa using hne'
              simp only []
              omega
      · exact h.elim
    · exact h.elim
  · rename_i pt it hat
    have hat' : at_ = #[pt, it] := by apply Array.ext'; simpa using hat
    subst hat'
    refine ⟨_, w, h, hh, ?_⟩
    have := Lib.run_unsafeString_none (P := P) (w := w) pt it ty none
    simpa [denL, AV.den] using this
  · exact h.elim
def uDataK (H : HH) (vs : List AV) (K : AV → Prop) : Prop :=
  match vs with
  | [.sl id n r sz _ cap] =>
    (match nth H id with
     | some ⟨m, .buf _ c _, _⟩ => n = m ∧ cap = c ∧ K (.ep id n r sz 0)
     | _ => False)
  | [.v (.slice none _ _)] => K (.v (.pointer none))
  | _ => False
theorem uDataK_sound {P : Program} {H : HH} {w : World} (hh : HoldsH H w) {at_ : Array TypeId} {vs : List AV} {K : AV → Prop} (h : uDataK H vs K) (ty : TypeId) :
    ∃ v, K v ∧ (Builtin.unsafeSliceData_ at_ ty (denL vs).toArray).run P w = .ok v.den w := by
  unfold uDataK at h
  split at h
  · rename_i id n r sz len cap
    split at h
    · rename_i m S c ty' own hb
      obtain ⟨rfl, rfl, h⟩ := h
      rw [nth_eq] at hb
      obtain ⟨cs, fz, _, _, _, hc1, _⟩ := hh.all id _ hb
      refine ⟨_, h, ?_⟩
      have := Lib.run_unsafeSliceData_row (P := P) (w := w) at_ ty ⟨n, r * sz, none⟩ len cap (by omega)
      simpa [denL, AV.den] using this
    · exact h.elim
  · rename_i len cap
    exact ⟨_, h, by simpa [denL, AV.den] using Lib.run_unsafeSliceData_nil (P := P) (w := w) at_ ty len cap⟩
  · exact h.elim
def copyK (tab : Tab) (at_ : List TypeId) (vs : List AV) (K : AV → Prop) : Prop :=
  match at_, vs with
  | [t, _], [.sl _ _ _ _ _ _, .v (.slice none 0 _)] =>
    (match tab.get t with
     | some ⟨_, _, _, .slice e, _⟩ => (match tab.get e with | some ei => ck (Nat.beq ei.sz 1) (K (.v (.int .i64 0))) | none => False)
     | _ => False)
  | _, _ => False
theorem copyK_sound {P : Program} {tab : Tab} (ht : TabOk P tab) {w : World} {at_ : Array TypeId} {vs : List AV} {K : AV → Prop} (h : copyK tab at_.toList vs K) (ty : TypeId) :
    ∃ v, K v ∧ (Builtin.copy_ at_ ty (denL vs).toArray).run P w = .ok v.den w := by
  unfold copyK at h
  split at h
  · rename_i t t' id n r sz len cap cap' hat
    have hat' : at_ = #[t, t'] := by apply Array.ext'; simpa using hat
    subst hat'
    split at h
    · rename_i e _ htt
      have hte := (ht.get htt).desc
      simp only [DescOk] at hte
      split at h
      · rename_i ei hei
        have g_ := ck_spec h
        clear h
        obtain ⟨h1, h⟩ := g_
        have h1 := Nat.eq_of_beq_eq_true h1
        obtain ⟨x, hx, _, hxs, _⟩ := (ht.get hei).info'
        refine ⟨_, h, ?_⟩
        have := run_copy_none (P := P) (dCap := cap) (sCap := cap') w t t' ty e (some ⟨n, r * sz, none⟩) none len 0 hte (by simp [hx, hxs, h1]) (by simp)
        simpa [denL, AV.den, goInt] using this
      · exact h.elim
    · exact h.elim
  · exact h.elim
end Go.Eng
