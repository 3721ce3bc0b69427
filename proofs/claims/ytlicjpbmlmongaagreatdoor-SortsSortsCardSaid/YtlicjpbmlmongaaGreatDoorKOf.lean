/- ref05.Of: the number of a text. -/
import Derived.Test.YtlicjpbmlmongaaGreatDoorQx7
import Derived.Test.YtlicjpbmlmongaaGreatDoorKFit
import Derived.Test.YtlicjpbmlmongaaGreatDoorKNum
set_option linter.unusedVariables false
set_option linter.unusedSimpArgs false
namespace Go.Proofs.YtlicjpbmlmongaaGreatDoor.K
open Go.RowKit Go.Proofs.YtlicjpbmlmongaaGreatDoor.H Go.Proofs.YtlicjpbmlmongaaGreatDoorW.PrintWords
theorem bt_at' (s : ByteArray) (i : Nat) (h : i < s.data.toList.length) : bt s (i : Int) = ((s.data.toList[i]).toNat : Int) := by
 have h' : i < s.size := by rw [← Lib.size_eq] at h; exact h
 unfold bt
 rw [dif_pos (by simpa using h')]
 rfl
theorem wrap_nat (n : Nat) (h : n ≤ 4611686018427387904) : wrap64 ((n : Int) + 1) = ((n + 1 : Nat) : Int) := by unfold wrap64; omega
theorem digit_bt (s : ByteArray) (i : Nat) (h : i < s.data.toList.length) : digitC (s.data.toList[i]) = true ↔ bt s (i : Int) ≥ 48 ∧ bt s (i : Int) ≤ 57 := by
 rw [bt_at' s i h]
 generalize s.data.toList[i] = c
 unfold digitC
 rw [Bool.and_eq_true, decide_eq_true_eq, decide_eq_true_eq, UInt8.le_iff_toNat_le, UInt8.le_iff_toNat_le]
 show 48 ≤ c.toNat ∧ c.toNat ≤ 57 ↔ _
 omega
theorem run_l0 (s : ByteArray) (hs : s.size ≤ 4611686018427387) (at_ : Nat) : ∀ n j, s.size < n + j → at_ ≤ j → j ≤ s.size →
  Q.toolchestref05_run.l0 n s (at_ : Int) (j : Int) = some (s.extract at_ (j + ((s.data.toList.drop j).takeWhile digitC).length))
 | 0, j, h, _, h3 => by omega
 | n + 1, j, h, h2, h3 => by
  have hz : s.data.toList.length = s.size := (Lib.size_eq s).symm
  have hend : (if 0 ≤ (at_ : Int) then (if (at_ : Int) ≤ (j : Int) then (if (j : Int) ≤ (s.size : Int) then (some (s.extract (at_ : Int).toNat (j : Int).toNat)) else (none)) else (none)) else (none)) = some (s.extract at_ j) := by
   rw [if_pos (by omega), if_pos (by omega), if_pos (by omega)]; rfl
  unfold Q.toolchestref05_run.l0
  by_cases hj : j < s.size
  ·
   have hl : j < s.data.toList.length := by omega
   rw [if_pos (by omega), if_pos (by omega), List.drop_eq_getElem_cons hl, List.takeWhile_cons]
   have hd := digit_bt s j hl
   by_cases h48 : bt s (j : Int) ≥ 48
   ·
    rw [if_pos h48]
    by_cases h57 : bt s (j : Int) ≤ 57
    ·
     rw [if_pos h57, if_pos (hd.2 ⟨h48, h57⟩), wrap_nat j (by omega), run_l0 s hs at_ n (j + 1) (by omega) (by omega) (by omega), List.length_cons]
     congr 2
     omega
    ·
     rw [if_neg h57, if_neg (fun e => h57 (hd.1 e).2), hend]; rfl
   ·
    rw [if_neg h48, if_neg (fun e => h48 (hd.1 e).1), hend]; rfl
  ·
   rw [if_neg (by omega), hend, List.drop_eq_nil_of_le (by omega)]
   rfl
theorem run_f (s : ByteArray) (hs : s.size ≤ 4611686018427387) (a : Nat) (ha : a ≤ s.size) : Q.toolchestref05_run.f (s.size + 1) s (a : Int) = some (bs ((s.data.toList.drop a).takeWhile digitC)) := by
 unfold Q.toolchestref05_run.f
 rw [run_l0 s hs a _ a (by omega) (Nat.le_refl _) ha, extract_bs]
 congr 2
 have : ((s.data.toList.drop a).takeWhile digitC) <+: s.data.toList.drop a := List.takeWhile_prefix _
 rw [Nat.add_sub_cancel_left]
 exact (List.prefix_iff_eq_take.1 this).symm
theorem blank_f (c : UInt8) : Q.toolchestref02_Blank.f (c.toNat : Int) = some (blankC c) := by
 unfold Q.toolchestref02_Blank.f blankC
 have e32 : (c.toNat : Int) = 32 ↔ c = 32 := by rw [← UInt8.toNat_inj]; show _ ↔ c.toNat = 32; omega
 have e9 : (c.toNat : Int) = 9 ↔ c = 9 := by rw [← UInt8.toNat_inj]; show _ ↔ c.toNat = 9; omega
 by_cases h : c = 32
 ·
  rw [if_pos (e32.2 h), h]; rfl
 ·
  rw [if_neg (fun e => h (e32.1 e))]
  congr 1
  rw [Bool.eq_iff_iff, beq_iff_eq, e9]
  simp [h]
theorem tw_in (p : UInt8 → Bool) : ∀ (l : List UInt8) (k : Nat) (hk : k < l.length), k < (l.takeWhile p).length → p l[k] = true
 | [], _, hk, _ => by cases hk
 | x :: l, k, hk, h => by
  rw [List.takeWhile_cons] at h
  split at h
  ·
   rename_i hx
   cases k with
   | zero => exact hx
   | succ k => exact tw_in p l k (by simpa using hk) (by simpa using h)
  ·
   cases h
theorem tw_out (p : UInt8 → Bool) : ∀ (l : List UInt8) (k : Nat) (hk : k < l.length), k = (l.takeWhile p).length → p l[k] = false
 | [], _, hk, _ => by cases hk
 | x :: l, k, hk, h => by
  rw [List.takeWhile_cons] at h
  split at h
  ·
   rename_i hx
   subst h
   exact tw_out p l _ (by simpa using hk) rfl
  ·
   rename_i hx
   subst h
   simpa using hx
/-- The state: the number's block, the result's block, and what lay below. -/
structure OfS (w : World) (g : Nat) (sg : Int) (a b : ByteArray) (W : World) : Prop where
 at_ : W.heap[g]? = some (.cells #[.int .i64 sg, .string a, .string b] 203 (0, 0))
 two : W.heap[w.heap.size]? = some (.cells #[.int .i64 0, .string ⟨#[]⟩, .string ⟨#[]⟩] 203 (0, 0))
 low : Below w.heap.size w W
 ne : w.heap.size < g
theorem OfS.c0 {w W : World} {g : Nat} {sg : Int} {a b : ByteArray} (h : OfS w g sg a b W) : W.cell? ⟨g, 0, none⟩ = some (.int .i64 sg) ∧ W.frozen? ⟨g, 0, none⟩ = false := ⟨(blk_cell h.at_ 0).trans rfl, blk_frozen h.at_ 0⟩
theorem OfS.c1 {w W : World} {g : Nat} {sg : Int} {a b : ByteArray} (h : OfS w g sg a b W) : W.cell? ⟨g, 1, none⟩ = some (.string a) ∧ W.frozen? ⟨g, 1, none⟩ = false := ⟨(blk_cell h.at_ 1).trans rfl, blk_frozen h.at_ 1⟩
theorem OfS.c2 {w W : World} {g : Nat} {sg : Int} {a b : ByteArray} (h : OfS w g sg a b W) : W.cell? ⟨g, 2, none⟩ = some (.string b) ∧ W.frozen? ⟨g, 2, none⟩ = false := ⟨(blk_cell h.at_ 2).trans rfl, blk_frozen h.at_ 2⟩
theorem OfS.set0 {w W : World} {g : Nat} {sg : Int} {a b : ByteArray} (h : OfS w g sg a b W) (x : Int) : OfS w g x a b (W.setCell ⟨g, 0, none⟩ (.int .i64 x)) :=
 ⟨blk_put h.at_ 0 _ rfl, blk_far h.two (Nat.ne_of_lt h.ne) _, h.low.setCell (p := ⟨g, 0, none⟩) (Nat.le_of_lt h.ne) _, h.ne⟩
theorem OfS.set1 {w W : World} {g : Nat} {sg : Int} {a b : ByteArray} (h : OfS w g sg a b W) (x : ByteArray) : OfS w g sg x b (W.setCell ⟨g, 1, none⟩ (.string x)) :=
 ⟨blk_put h.at_ 1 _ rfl, blk_far h.two (Nat.ne_of_lt h.ne) _, h.low.setCell (p := ⟨g, 1, none⟩) (Nat.le_of_lt h.ne) _, h.ne⟩
theorem OfS.set2 {w W : World} {g : Nat} {sg : Int} {a b : ByteArray} (h : OfS w g sg a b W) (x : ByteArray) : OfS w g sg a x (W.setCell ⟨g, 2, none⟩ (.string x)) :=
 ⟨blk_put h.at_ 2 _ rfl, blk_far h.two (Nat.ne_of_lt h.ne) _, h.low.setCell (p := ⟨g, 2, none⟩) (Nat.le_of_lt h.ne) _, h.ne⟩
theorem OfS.drawn {w W W' : World} {g : Nat} {sg : Int} {a b : ByteArray} (h : OfS w g sg a b W) (d : Drawn0 W W') : OfS w g sg a b W' := by
 obtain ⟨n, rfl⟩ := d.out
 exact ⟨h.at_, h.two, bdn h.low n, h.ne⟩
theorem OfS.new {w wr : World} (h2 : wr.heap[w.heap.size]? = some (.cells #[.int .i64 0, .string ⟨#[]⟩, .string ⟨#[]⟩] 203 (0, 0))) (hb : Below w.heap.size w wr) (sg : Int) :
  OfS w wr.heap.size sg ⟨#[]⟩ ⟨#[]⟩ (wr.alloc (.cells #[.int .i64 sg, .string ⟨#[]⟩, .string ⟨#[]⟩] 203 (0, 0))) :=
 ⟨World.alloc_heap_new wr _, (Lib.alloc_old _ _ _ (blk_lt h2)).trans h2, bal hb _, blk_lt h2⟩
theorem drop_tw (p : UInt8 → Bool) : ∀ l : List UInt8, l.drop (l.takeWhile p).length = l.dropWhile p
 | [] => rfl
 | x :: l => by
  rw [List.takeWhile_cons, List.dropWhile_cons]
  split
  ·
   exact drop_tw p l
  ·
   rfl
theorem drop_digits (l : List UInt8) (a : Nat) : (l.drop a).dropWhile digitC = l.drop (a + ((l.drop a).takeWhile digitC).length) := by
 rw [← List.drop_drop, drop_tw]
def sizeAt (W : World) (g i : Nat) : Nat := match W.cell? ⟨g, i, none⟩ with | some (.string x) => x.size | _ => 0
theorem sizeAt1 {w W : World} {g : Nat} {sg : Int} {a b : ByteArray} (h : OfS w g sg a b W) : sizeAt W g 1 = a.size := by unfold sizeAt; rw [h.c1.1]
theorem sizeAt2 {w W : World} {g : Nat} {sg : Int} {a b : ByteArray} (h : OfS w g sg a b W) : sizeAt W g 2 = b.size := by unfold sizeAt; rw [h.c2.1]
theorem first_at (y : ByteArray) (h : 0 < y.size) : y.data.toList = y[0] :: (y.extract 1 y.size).data.toList := by
 have h' : 0 < y.data.toList.length := by rw [← Lib.size_eq]; exact h
 rw [extract_drop]
 have := List.drop_eq_getElem_cons h'
 rw [List.drop_zero] at this
 exact this
theorem last_at (y : ByteArray) (h : 0 < y.size) (h1 : y.size - 1 < y.size) : y.data.toList = (y.extract 0 (y.size - 1)).data.toList ++ [y[y.size - 1]] := by
 have hz : y.data.toList.length = y.size := (Lib.size_eq y).symm
 rw [extract_bs, bs_toList, List.drop_zero, Nat.sub_zero]
 have h' : y.size - 1 < y.data.toList.length := by omega
 have e1 : y[y.size - 1] = y.data.toList[y.size - 1] := rfl
 rw [e1, List.take_append_getElem, List.take_of_length_le (by omega)]
theorem trimR_last (p : UInt8 → Bool) (l : List UInt8) (x : UInt8) : trimR p (l ++ [x]) = if p x = true then trimR p l else l ++ [x] := by
 unfold trimR
 rw [List.reverse_append, List.reverse_singleton, List.singleton_append, List.dropWhile_cons]
 split
 ·
  rfl
 ·
  rw [List.reverse_cons, List.reverse_reverse]
theorem str_some {A : ByteArray} (h : ¬ A = (⟨#[]⟩ : ByteArray)) : (A.toList == ([] : List UInt8)) = false ∧ (A.toList == (⟨#[]⟩ : ByteArray).toList) = false ∧ A.toList.isEmpty = false ∧ ¬ A.toList = [] := by
 have h1 : ¬ A.toList = [] := fun e => h (by
  have e2 : A.data.toList = [] := by rw [← Lib.toList_data]; exact e
  rw [← bs_of A, e2]; rfl)
 have e0 : (⟨#[]⟩ : ByteArray).toList = [] := by rw [Lib.toList_data]
 exact ⟨beq_eq_false_iff_ne.2 h1, by rw [e0]; exact beq_eq_false_iff_ne.2 h1, by rw [List.isEmpty_eq_false_iff]; exact h1, h1⟩
theorem str_none {A : ByteArray} (h : A.toList = []) : A = (⟨#[]⟩ : ByteArray) := by
 rw [Lib.toList_data] at h
 rw [← bs_of A, h]; rfl
/-- What is behind the two numbers' cutting. -/
structure OfN (l : List UInt8) (sg : Int) (Wl Pl : List UInt8) : Prop where
 out : numL l = ⟨if Wl.dropWhile (· == 48) = [] ∧ trimR (· == 48) Pl = [] then 0 else sg, Wl.dropWhile (· == 48), trimR (· == 48) Pl⟩
theorem res_chain {W : World} {g : Nat} (h : W.heap[g]? = some (.cells #[.int .i64 0, .string ⟨#[]⟩, .string ⟨#[]⟩] 203 (0, 0))) (x : Int) (a b : ByteArray) :
  (W.cell? ⟨g, 0, none⟩ = some (.int .i64 0) ∧ W.frozen? ⟨g, 0, none⟩ = false) ∧
  ((W.setCell ⟨g, 0, none⟩ (.int .i64 x)).cell? ⟨g, 1, none⟩ = some (.string ⟨#[]⟩) ∧ (W.setCell ⟨g, 0, none⟩ (.int .i64 x)).frozen? ⟨g, 1, none⟩ = false) ∧
  (((W.setCell ⟨g, 0, none⟩ (.int .i64 x)).setCell ⟨g, 1, none⟩ (.string a)).cell? ⟨g, 2, none⟩ = some (.string ⟨#[]⟩) ∧ ((W.setCell ⟨g, 0, none⟩ (.int .i64 x)).setCell ⟨g, 1, none⟩ (.string a)).frozen? ⟨g, 2, none⟩ = false) ∧
  (((W.setCell ⟨g, 0, none⟩ (.int .i64 x)).setCell ⟨g, 1, none⟩ (.string a)).setCell ⟨g, 2, none⟩ (.string b)).heap[g]? = some (.cells #[.int .i64 x, .string a, .string b] 203 (0, 0)) := by
 have h1 := blk_put (cs' := #[.int .i64 x, .string ⟨#[]⟩, .string ⟨#[]⟩]) h 0 (.int .i64 x) rfl
 have h2 := blk_put (cs' := #[.int .i64 x, .string a, .string ⟨#[]⟩]) h1 1 (.string a) rfl
 have h3 := blk_put (cs' := #[.int .i64 x, .string a, .string b]) h2 2 (.string b) rfl
 exact ⟨⟨(blk_cell h 0).trans rfl, blk_frozen h 0⟩, ⟨(blk_cell h1 1).trans rfl, blk_frozen h1 1⟩, ⟨(blk_cell h2 2).trans rfl, blk_frozen h2 2⟩, h3⟩
theorem two_cells {W : World} {g : Nat} (h : W.heap[g]? = some (.cells #[.int .i64 0, .string ⟨#[]⟩, .string ⟨#[]⟩] 203 (0, 0))) :
  W.cell? ⟨g, 1, none⟩ = some (.string ⟨#[]⟩) ∧ W.cell? ⟨g, 2, none⟩ = some (.string ⟨#[]⟩) ∧ W.frozen? ⟨g, 1, none⟩ = false ∧ W.frozen? ⟨g, 2, none⟩ = false :=
 ⟨(blk_cell h 1).trans rfl, (blk_cell h 2).trans rfl, blk_frozen h 1, blk_frozen h 2⟩
theorem bs_nil_iff (l : List UInt8) : bs l = (⟨#[]⟩ : ByteArray) ↔ l = [] := by
 constructor
 ·
  intro e; have := bs_toList l; rw [e] at this; exact this.symm
 ·
  intro e; rw [e]; rfl
theorem OfS.all {w W : World} {g : Nat} {sg : Int} {a b : ByteArray} (h : OfS w g sg a b W) : W.cell? ⟨g, 0, none⟩ = some (.int .i64 sg) ∧ W.frozen? ⟨g, 0, none⟩ = false ∧ W.cell? ⟨g, 1, none⟩ = some (.string a) ∧ W.frozen? ⟨g, 1, none⟩ = false ∧ W.cell? ⟨g, 2, none⟩ = some (.string b) ∧ W.frozen? ⟨g, 2, none⟩ = false :=
 ⟨h.c0.1, h.c0.2, h.c1.1, h.c1.2, h.c2.1, h.c2.2⟩
theorem OfS.low3 {w W : World} {g : Nat} {sg : Int} {a b : ByteArray} (h : OfS w g sg a b W) : Below w.heap.size w (((W.setCell ⟨w.heap.size, 0, none⟩ (.int .i64 sg)).setCell ⟨w.heap.size, 1, none⟩ (.string a)).setCell ⟨w.heap.size, 2, none⟩ (.string b)) :=
 ((h.low.setCell (p := ⟨w.heap.size, 0, none⟩) (Nat.le_refl _) (.int .i64 sg)).setCell (p := ⟨w.heap.size, 1, none⟩) (Nat.le_refl _) (.string a)).setCell (p := ⟨w.heap.size, 2, none⟩) (Nat.le_refl _) (.string b)
def decV (x : Num) : Value := .agg #[.int .i64 x.sign, .string (bs x.whole), .string (bs x.part)]
theorem res_a {l Wl Pl : List UInt8} {sg sf : Int} {A y : ByteArray} (hN : OfN l sg Wl Pl) (hA : A = bs (Wl.dropWhile (· == 48))) (hB : y = bs (trimR (· == 48) Pl)) (hAe : ¬ A = (⟨#[]⟩ : ByteArray)) (hsf : sf = sg) : decV (numL l) = .agg #[.int .i64 sf, .string A, .string y] := by
 unfold decV
 rw [hN.out, if_neg (fun e => hAe (by rw [hA]; exact (bs_nil_iff _).2 e.1)), hsf, ← hA, ← hB]
theorem res_b {l Wl Pl : List UInt8} {sg sf : Int} {A y : ByteArray} (hN : OfN l sg Wl Pl) (hA : A = bs (Wl.dropWhile (· == 48))) (hB : y = bs (trimR (· == 48) Pl)) (hBe : ¬ y = (⟨#[]⟩ : ByteArray)) (hsf : sf = sg) : decV (numL l) = .agg #[.int .i64 sf, .string A, .string y] := by
 unfold decV
 rw [hN.out, if_neg (fun e => hBe (by rw [hB]; exact (bs_nil_iff _).2 e.2)), hsf, ← hA, ← hB]
theorem res_c {l Wl Pl : List UInt8} {sg sf : Int} {A y : ByteArray} (hN : OfN l sg Wl Pl) (hA : A = bs (Wl.dropWhile (· == 48))) (hB : y = bs (trimR (· == 48) Pl)) (ae : A.toList = []) (be : y.toList = []) (hsf : sf = 0) : decV (numL l) = .agg #[.int .i64 sf, .string A, .string y] := by
 unfold decV
 rw [hN.out, if_pos ⟨(bs_nil_iff _).1 (by rw [← hA]; exact str_none ae), (bs_nil_iff _).1 (by rw [← hB]; exact str_none be)⟩, hsf, ← hA, ← hB]
theorem ofN {l m2 Wl Pl : List UInt8} {sg : Int} (hM : (minusOf (l.dropWhile blankC)).2 = m2 ∧ (if (minusOf (l.dropWhile blankC)).1 = true then (-1 : Int) else 1) = sg) (hW : m2.takeWhile digitC = Wl) (hP : partOf m2 = trimR (· == 48) Pl) : OfN l sg Wl Pl := by
 refine ⟨?_⟩
 have e : numL l = ⟨if wholeOf (minusOf (l.dropWhile blankC)).2 = [] ∧ partOf (minusOf (l.dropWhile blankC)).2 = [] then 0 else if (minusOf (l.dropWhile blankC)).1 = true then -1 else 1, wholeOf (minusOf (l.dropWhile blankC)).2, partOf (minusOf (l.dropWhile blankC)).2⟩ := rfl
 rw [e, hM.1, hM.2, hP]
 unfold wholeOf
 rw [hW]
theorem minus_other {x : UInt8} {r : List UInt8} (h : ¬ x = 45) : minusOf (x :: r) = (false, x :: r) := by
 unfold minusOf
 split
 ·
  rename_i e; injection e with e1; exact absurd e1 h
 ·
  rfl
theorem part_dot {m r : List UInt8} (h : m.dropWhile digitC = 46 :: r) : partOf m = trimR (· == 48) (r.takeWhile digitC) := by unfold partOf; rw [h]; rfl
theorem part_other {m r : List UInt8} {x : UInt8} (h : m.dropWhile digitC = x :: r) (hx : ¬ x = 46) : partOf m = trimR (· == 48) [] := by
 unfold partOf
 rw [h]
 split
 ·
  rename_i e; injection e with e1; exact absurd e1 hx
 ·
  rfl
theorem part_end {m : List UInt8} (h : m.dropWhile digitC = []) : partOf m = trimR (· == 48) [] := by unfold partOf; rw [h]; rfl
theorem ne_beq {x : UInt8} {n : Nat} (c : UInt8) (hc : c.toNat = n) (h : ¬ x = c) : ((x.toNat : Int) == (n : Int)) = false := by
 rw [beq_eq_false_iff_ne]; intro e; apply h; rw [← UInt8.toNat_inj, hc]; omega
set_option maxHeartbeats 4000000 in
set_option maxRecDepth 100000 in
theorem of_walk (s : ByteArray) (hs : s.size ≤ 4611686018427387) (w : World) :
  Calls Tryz.prog 141 #[.string s] w fun e w' => e = .returned (decV (numL s.data.toList)) ∧ Below w.heap.size w w' := by
 have hz : s.data.toList.length = s.size := (Lib.size_eq s).symm
 obtain ⟨m, hm⟩ : ∃ m, (s.data.toList.takeWhile blankC).length = m := ⟨_, rfl⟩
 have hms : m ≤ s.size := by rw [← hm, ← hz]; exact (List.takeWhile_sublist _).length_le
 go_enter Tryz.func141, Tryz.ntmps141
 go_wp2
 go_loopw [3] (fun a wr => ∃ k : Nat, k ≤ m ∧ a = .int .i64 k ∧ wr.heap[w.heap.size]? = some (.cells #[.int .i64 0, .string ⟨#[]⟩, .string ⟨#[]⟩] 203 (0, 0)) ∧ Hid (Below w.heap.size w wr)) (fun a _ => m - (intOf a).toNat)
 case atStart => exact ⟨0, Nat.zero_le _, rfl, World.alloc_heap_new w _, Lib.hid (bal (Below.refl _ _) _)⟩
 case round =>
  obtain ⟨k, hk, rfl, htwo, hbr⟩ := hrel
  by_cases hlt : k < s.size
  ·
   have hkl : k < s.data.toList.length := by rw [hz]; exact hlt
   have hin := Lib.hid (tw_in blankC s.data.toList k hkl)
   have hout := Lib.hid (tw_out blankC s.data.toList k hkl)
   go_wp2_with fail
   refine (Q.toolchestref02_Blank.calls _ _ _ (blank_f s[k])).mono ?_
   rintro e w1 ⟨rfl, hd⟩
   have hb1 := Lib.hid (bth hbr.out hd.below)
   have htwo1 : w1.heap[w.heap.size]? = some (.cells #[.int .i64 0, .string ⟨#[]⟩, .string ⟨#[]⟩] 203 (0, 0)) := by
    obtain ⟨n, rfl⟩ := hd.out
    exact htwo
   clear hd htwo
   by_cases hkm : k < m
   ·
    have hbl : blankC s[k] = true := hin.out (by rw [hm]; exact hkm)
    clear hin hout
    go_wp2
    go_roundw
    case rel => exact ⟨k + 1, by omega, by go_num, htwo1, hb1⟩
    case measure => simp [intOf]; omega
   ·
    obtain rfl : k = m := by omega
    have hbl : blankC s[k] = false := hout.out hm.symm
    clear hin hout
    have hcons := Lib.hid (show s.data.toList.dropWhile blankC = s[k] :: s.data.toList.drop (k + 1) by rw [← drop_tw, hm]; exact List.drop_eq_getElem_cons hkl)
    have hdropk := Lib.hid (show s.data.toList.drop k = s[k] :: s.data.toList.drop (k + 1) from List.drop_eq_getElem_cons hkl)
    by_cases h45 : s[k] = 45
    ·
     have h45' : (s[k].toNat : Int) = 45 := by rw [h45]; rfl
     obtain ⟨sg, hsg⟩ : ∃ sg : Int, sg = -1 := ⟨_, rfl⟩
     have hS1 : Hid (OfS w w1.heap.size sg ⟨#[]⟩ ⟨#[]⟩ (w1.alloc (.cells #[.int .i64 (-1), .string ⟨#[]⟩, .string ⟨#[]⟩] 203 (0, 0)))) := by rw [hsg]; exact Lib.hid (OfS.new htwo1 hb1.out (-1))
     have hM : Hid ((minusOf (s.data.toList.dropWhile blankC)).2 = s.data.toList.drop (k + 1) ∧ (if (minusOf (s.data.toList.dropWhile blankC)).1 = true then (-1 : Int) else 1) = sg) := Lib.hid (by rw [hcons.out, h45, hsg]; exact ⟨rfl, rfl⟩)
     clear hcons hdropk hsg
     go_wp2_with fail
     rw [show (k : Int) + 1 = ((k + 1 : Nat) : Int) by omega]
     have hal : k + 1 ≤ s.size := hlt
     generalize k + 1 = a1 at hM hal ⊢
     refine (Q.toolchestref05_run.calls (s.size + 1) s (a1 : Int) _ _ (run_f s hs a1 hal)).mono ?_
     rintro e w2 ⟨rfl, hd2⟩
     have hS2 := Lib.hid (hS1.out.drawn hd2)
     have hdd := Lib.hid (drop_digits s.data.toList a1)
     have hle : ((s.data.toList.drop a1).takeWhile digitC).length ≤ s.data.toList.length - a1 := by
      rw [← List.length_drop]; exact (List.takeWhile_sublist _).length_le
     have hWz : ((s.data.toList.drop a1).takeWhile digitC).length ≤ s.size := by omega
     have hWl := Lib.hid (Eq.refl ((s.data.toList.drop a1).takeWhile digitC))
     generalize hWg : (s.data.toList.drop a1).takeWhile digitC = Wl at hdd hle hWz ⊢
     replace hWg := Lib.hid hWg
     have hw2 : wrap64 ((a1 : Int) + ((bs Wl).size : Int)) = ((a1 + Wl.length : Nat) : Int) := by rw [bs_size]; unfold wrap64; omega
     have hal2 : a1 + Wl.length ≤ s.size := by omega
     generalize a1 + Wl.length = a2 at hw2 hal2 hdd
     have hWs : Hid ((bs Wl).size ≤ 4611686018427387904) := Lib.hid (by rw [bs_size]; omega)
     have hS3 := Lib.hid (hS2.out.set1 (bs Wl))
     obtain ⟨q1, q2⟩ := hS2.out.c1
     clear hd2 hS2 hS1 hle hWl hWz
     by_cases hlt2 : a2 < s.size
     ·
      have hl2 : a2 < s.data.toList.length := by rw [hz]; exact hlt2
      by_cases h46 : s[a2] = 46
      ·
       have h46' : (s[a2].toNat : Int) = 46 := by rw [h46]; rfl
       have hN1 := Lib.hid (show (s.data.toList.drop a1).dropWhile digitC = 46 :: s.data.toList.drop (a2 + 1) by
        rw [hdd.out]; have := List.drop_eq_getElem_cons hl2; rw [this]; congr 1)
       obtain ⟨q3, q4⟩ := hS3.out.c2
       have hwa : wrap64 ((a2 : Int) + 1) = ((a2 + 1 : Nat) : Int) := by unfold wrap64; omega
       go_wp2_with fail
       rw [show (a2 : Int) + 1 = ((a2 + 1 : Nat) : Int) by omega]
       refine (Q.toolchestref05_run.calls (s.size + 1) s ((a2 + 1 : Nat) : Int) _ _ (run_f s hs (a2 + 1) hlt2)).mono ?_
       rintro e w3 ⟨rfl, hd3⟩
       have hS4 := Lib.hid (hS3.out.drawn hd3)
       have hPz : ((s.data.toList.drop (a2 + 1)).takeWhile digitC).length ≤ s.data.toList.length := by
        refine Nat.le_trans (List.takeWhile_sublist _).length_le ?_
        rw [List.length_drop]; omega
       have hN : Hid (OfN s.data.toList sg Wl ((s.data.toList.drop (a2 + 1)).takeWhile digitC)) := Lib.hid (ofN hM.out hWg.out (part_dot hN1.out))
       generalize (s.data.toList.drop (a2 + 1)).takeWhile digitC = Pl at hN hPz ⊢
       have hPl : Hid ((bs Pl).size ≤ 4611686018427387904) := Lib.hid (by rw [bs_size]; omega)
       have hS := Lib.hid (hS4.out.set2 (bs Pl))
       obtain ⟨q5, q6⟩ := hS4.out.c2
       clear hd3 hS3 hN1 hPz q1 q2 q3 q4 hwa
       go_wp2
       clear hS4 q5 q6 hw2 hdd hWg hM h46 h46' hl2
       go_loopw [] (fun wr => ∃ y : ByteArray, y.data.toList.dropWhile (· == 48) = Wl.dropWhile (· == 48) ∧ y.size ≤ 4611686018427387904 ∧ Hid (OfS w w1.heap.size sg y (bs Pl) wr)) (fun wr => sizeAt wr w1.heap.size 1)
       case atStart => exact ⟨bs Wl, by rw [bs_toList], hWs.out, hS⟩
       case round =>
        clear hS
        obtain ⟨y, hy, hyl, hSr⟩ := hrel
        obtain ⟨c1, f1⟩ := hSr.out.c1
        by_cases h0 : 0 < y.size
        ·
         have hfi := Lib.hid (first_at y h0)
         by_cases hx : y[0] = 48
         ·
          have hx' : (y[0].toNat : Int) = 48 := by rw [hx]; rfl
          have hSn := Lib.hid (hSr.out.set1 (y.extract 1 y.size))
          go_wp2
          go_roundw
          case rel => exact ⟨_, by rw [← hy, hfi.out, hx]; rfl, by rw [extract_bs, bs_size, List.length_take]; omega, hSn⟩
          case measure => rw [sizeAt1 hSn.out, sizeAt1 hSr.out, extract_bs, bs_size, List.length_take]; omega
         ·
          have hx' : ((y[0].toNat : Int) == 48) = false := by
           rw [beq_eq_false_iff_ne]; intro e; apply hx; rw [← UInt8.toNat_inj]; show y[0].toNat = 48; omega
          obtain ⟨A, rfl⟩ : ∃ A, A = y := ⟨_, rfl⟩
          have hA : A = bs (Wl.dropWhile (· == 48)) := by
           rw [← hy, hfi.out, List.dropWhile_cons, if_neg (by simpa using hx), ← hfi.out, bs_of]
          have hAe : ¬ (A = (⟨#[]⟩ : ByteArray)) := fun e => by rw [e] at h0; exact absurd h0 (by decide)
          have hS := Lib.hid hSr.out
          replace hA := Lib.hid hA
          replace hAe := Lib.hid hAe
          clear hfi hy
          go_wp2
          clear hx hx' hSr c1 f1
          go_loopw [] (fun wr => ∃ y : ByteArray, trimR (· == 48) y.data.toList = trimR (· == 48) Pl ∧ y.size ≤ 4611686018427387904 ∧ Hid (OfS w w1.heap.size sg A y wr)) (fun wr => sizeAt wr w1.heap.size 2)
          case atStart => exact ⟨bs Pl, by rw [bs_toList], hPl.out, hS⟩
          case round =>
           obtain ⟨y, hy, hyl, hSr⟩ := hrel
           obtain ⟨c1, f1⟩ := hSr.out.c2
           by_cases h0 : 0 < y.size
           ·
            have h1 : y.size - 1 < y.size := by omega
            have hla := Lib.hid (last_at y h0 h1)
            have hsub : wrap64 ((y.size : Int) - 1) = ((y.size - 1 : Nat) : Int) := by unfold wrap64; omega
            by_cases hx : y[y.size - 1] = 48
            ·
             have hx' : (y[y.size - 1].toNat : Int) = 48 := by rw [hx]; rfl
             have hSn := Lib.hid (hSr.out.set2 (y.extract 0 (y.size - 1)))
             go_wp2
             go_roundw
             case rel => exact ⟨_, by rw [← hy, hla.out, trimR_last, hx]; rfl, by rw [extract_bs, bs_size, List.length_take]; omega, hSn⟩
             case measure => rw [sizeAt2 hSn.out, sizeAt2 hSr.out, extract_bs, bs_size, List.length_take]; omega
            ·
             have hx' : ((y[y.size - 1].toNat : Int) == 48) = false := by
              rw [beq_eq_false_iff_ne]; intro e; apply hx; rw [← UInt8.toNat_inj]; show y[y.size - 1].toNat = 48; omega
             have hB : Hid (y = bs (trimR (· == 48) Pl)) := Lib.hid (by
              rw [← hy, hla.out, trimR_last, if_neg (by simpa using hx), ← hla.out, bs_of])
             have hBe : Hid (¬ (y = (⟨#[]⟩ : ByteArray))) := Lib.hid (fun e => by rw [e] at h0; exact absurd h0 (by decide))
             clear hS
             obtain ⟨ae1, ae2, ae3, ae4⟩ := str_some hAe.out
             obtain ⟨sf, hsf⟩ : ∃ sf, sf = sg := ⟨_, rfl⟩
             have hR := Lib.hid (res_a hN.out hA.out hB.out hAe.out hsf)
             have hQ : Hid (OfS w w1.heap.size sf A y wr) := Lib.hid (by rw [hsf]; exact hSr.out)
             replace hsf := Lib.hid hsf
             obtain ⟨k0, k1, k2, k3, k4, k5⟩ := hQ.out.all
             obtain ⟨k6, k7⟩ := hSr.out.c0
             obtain ⟨k8, k9⟩ := hSr.out.c1
             obtain ⟨⟨z0, z1⟩, ⟨z2, z3⟩, ⟨z4, z5⟩, z6⟩ := res_chain hQ.out.two sf A y
             obtain ⟨z7, z8, z9, z10⟩ := two_cells hQ.out.two
             have hZ := Lib.hid z6
             have hB3 := Lib.hid hQ.out.low3
             clear z6
             go_wp2
             clear z0 z1 z2 z3 z4 z5 z7 z8 z9 z10 k0 k1 k2 k3 k4 k5 k6 k7 k8 k9
             refine bodyPost_ret (results_cell_row rfl _ _ w.heap.size 203 #[.int .i64 sf, .string A, .string y] (0, 0) _ rfl hZ.out Tryz.underlying203 rfl (by kernel_rfl)) rfl ⟨by rw [hR.out], hB3.out⟩
           ·
            have he : y.data.toList = [] := List.eq_nil_of_length_eq_zero (by rw [← Lib.size_eq]; omega)
            have hB : Hid (y = bs (trimR (· == 48) Pl)) := Lib.hid (by rw [← hy, he, ← bs_of y, he]; rfl)
            have hB0 : Hid (y.toList = []) := Lib.hid (by rw [Lib.toList_data]; exact he)
            clear hS he
            obtain ⟨ae1, ae2, ae3, ae4⟩ := str_some hAe.out
            obtain ⟨sf, hsf⟩ : ∃ sf, sf = sg := ⟨_, rfl⟩
            have hR := Lib.hid (res_a hN.out hA.out hB.out hAe.out hsf)
            have hQ : Hid (OfS w w1.heap.size sf A y wr) := Lib.hid (by rw [hsf]; exact hSr.out)
            replace hsf := Lib.hid hsf
            obtain ⟨k0, k1, k2, k3, k4, k5⟩ := hQ.out.all
            obtain ⟨k6, k7⟩ := hSr.out.c0
            obtain ⟨k8, k9⟩ := hSr.out.c1
            obtain ⟨⟨z0, z1⟩, ⟨z2, z3⟩, ⟨z4, z5⟩, z6⟩ := res_chain hQ.out.two sf A y
            obtain ⟨z7, z8, z9, z10⟩ := two_cells hQ.out.two
            have hZ := Lib.hid z6
            have hB3 := Lib.hid hQ.out.low3
            clear z6
            go_wp2
            clear z0 z1 z2 z3 z4 z5 z7 z8 z9 z10 k0 k1 k2 k3 k4 k5 k6 k7 k8 k9
            refine bodyPost_ret (results_cell_row rfl _ _ w.heap.size 203 #[.int .i64 sf, .string A, .string y] (0, 0) _ rfl hZ.out Tryz.underlying203 rfl (by kernel_rfl)) rfl ⟨by rw [hR.out], hB3.out⟩
        ·
         have he : y.data.toList = [] := List.eq_nil_of_length_eq_zero (by rw [← Lib.size_eq]; omega)
         obtain ⟨A, rfl⟩ : ∃ A, A = y := ⟨_, rfl⟩
         have hA : Hid (A = bs (Wl.dropWhile (· == 48))) := Lib.hid (by rw [← hy, he, ← bs_of A, he]; rfl)
         have hA0 : Hid (A.toList = []) := Lib.hid (by rw [Lib.toList_data]; exact he)
         have hS := Lib.hid hSr.out
         clear he hy
         go_wp2
         clear hSr c1 f1
         go_loopw [] (fun wr => ∃ y : ByteArray, trimR (· == 48) y.data.toList = trimR (· == 48) Pl ∧ y.size ≤ 4611686018427387904 ∧ Hid (OfS w w1.heap.size sg A y wr)) (fun wr => sizeAt wr w1.heap.size 2)
         case atStart => exact ⟨bs Pl, by rw [bs_toList], hPl.out, hS⟩
         case round =>
          obtain ⟨y, hy, hyl, hSr⟩ := hrel
          obtain ⟨c1, f1⟩ := hSr.out.c2
          by_cases h0 : 0 < y.size
          ·
           have h1 : y.size - 1 < y.size := by omega
           have hla := Lib.hid (last_at y h0 h1)
           have hsub : wrap64 ((y.size : Int) - 1) = ((y.size - 1 : Nat) : Int) := by unfold wrap64; omega
           by_cases hx : y[y.size - 1] = 48
           ·
            have hx' : (y[y.size - 1].toNat : Int) = 48 := by rw [hx]; rfl
            have hSn := Lib.hid (hSr.out.set2 (y.extract 0 (y.size - 1)))
            go_wp2
            go_roundw
            case rel => exact ⟨_, by rw [← hy, hla.out, trimR_last, hx]; rfl, by rw [extract_bs, bs_size, List.length_take]; omega, hSn⟩
            case measure => rw [sizeAt2 hSn.out, sizeAt2 hSr.out, extract_bs, bs_size, List.length_take]; omega
           ·
            have hx' : ((y[y.size - 1].toNat : Int) == 48) = false := by
             rw [beq_eq_false_iff_ne]; intro e; apply hx; rw [← UInt8.toNat_inj]; show y[y.size - 1].toNat = 48; omega
            have hB : Hid (y = bs (trimR (· == 48) Pl)) := Lib.hid (by
             rw [← hy, hla.out, trimR_last, if_neg (by simpa using hx), ← hla.out, bs_of])
            have hBe : Hid (¬ (y = (⟨#[]⟩ : ByteArray))) := Lib.hid (fun e => by rw [e] at h0; exact absurd h0 (by decide))
            clear hS
            have ae := hA0.out
            obtain ⟨ae1, ae2, ae3, ae4⟩ := str_some hBe.out
            obtain ⟨sf, hsf⟩ : ∃ sf, sf = sg := ⟨_, rfl⟩
            have hR := Lib.hid (res_b hN.out hA.out hB.out hBe.out hsf)
            have hQ : Hid (OfS w w1.heap.size sf A y wr) := Lib.hid (by rw [hsf]; exact hSr.out)
            replace hsf := Lib.hid hsf
            obtain ⟨k0, k1, k2, k3, k4, k5⟩ := hQ.out.all
            obtain ⟨k6, k7⟩ := hSr.out.c0
            obtain ⟨k8, k9⟩ := hSr.out.c1
            obtain ⟨⟨z0, z1⟩, ⟨z2, z3⟩, ⟨z4, z5⟩, z6⟩ := res_chain hQ.out.two sf A y
            obtain ⟨z7, z8, z9, z10⟩ := two_cells hQ.out.two
            have hZ := Lib.hid z6
            have hB3 := Lib.hid hQ.out.low3
            clear z6
            go_wp2
            clear z0 z1 z2 z3 z4 z5 z7 z8 z9 z10 k0 k1 k2 k3 k4 k5 k6 k7 k8 k9
            refine bodyPost_ret (results_cell_row rfl _ _ w.heap.size 203 #[.int .i64 sf, .string A, .string y] (0, 0) _ rfl hZ.out Tryz.underlying203 rfl (by kernel_rfl)) rfl ⟨by rw [hR.out], hB3.out⟩
          ·
           have he : y.data.toList = [] := List.eq_nil_of_length_eq_zero (by rw [← Lib.size_eq]; omega)
           have hB : Hid (y = bs (trimR (· == 48) Pl)) := Lib.hid (by rw [← hy, he, ← bs_of y, he]; rfl)
           have hB0 : Hid (y.toList = []) := Lib.hid (by rw [Lib.toList_data]; exact he)
           clear hS he
           have ae := hA0.out
           have be := hB0.out
           obtain ⟨sf, hsf⟩ : ∃ sf : Int, sf = 0 := ⟨_, rfl⟩
           have hR := Lib.hid (res_c hN.out hA.out hB.out ae be hsf)
           have hQ : Hid (OfS w w1.heap.size sf A y (wr.setCell ⟨w1.heap.size, 0, none⟩ (.int .i64 0))) := Lib.hid (by rw [hsf]; exact hSr.out.set0 0)
           replace hsf := Lib.hid hsf
           obtain ⟨k0, k1, k2, k3, k4, k5⟩ := hQ.out.all
           obtain ⟨k6, k7⟩ := hSr.out.c0
           obtain ⟨k8, k9⟩ := hSr.out.c1
           obtain ⟨⟨z0, z1⟩, ⟨z2, z3⟩, ⟨z4, z5⟩, z6⟩ := res_chain hQ.out.two sf A y
           obtain ⟨z7, z8, z9, z10⟩ := two_cells hQ.out.two
           have hZ := Lib.hid z6
           have hB3 := Lib.hid hQ.out.low3
           clear z6
           go_wp2
           clear z0 z1 z2 z3 z4 z5 z7 z8 z9 z10 k0 k1 k2 k3 k4 k5 k6 k7 k8 k9
           refine bodyPost_ret (results_cell_row rfl _ _ w.heap.size 203 #[.int .i64 sf, .string A, .string y] (0, 0) _ rfl hZ.out Tryz.underlying203 rfl (by kernel_rfl)) rfl ⟨by rw [hR.out], hB3.out⟩
      ·
       have h46' : ((s[a2].toNat : Int) == 46) = false := ne_beq 46 rfl h46
       obtain ⟨Pl, hPl0⟩ : ∃ Pl : List UInt8, Pl = [] := ⟨_, rfl⟩
       replace hPl0 := Lib.hid hPl0
       have hS : Hid (OfS w w1.heap.size sg (bs Wl) (bs Pl) (w2.setCell ⟨w1.heap.size, 1, none⟩ (.string (bs Wl)))) := by rw [hPl0.out]; exact hS3
       have hN : Hid (OfN s.data.toList sg Wl Pl) := Lib.hid (ofN hM.out hWg.out (by
        rw [hPl0.out]; exact part_other (hdd.out.trans (List.drop_eq_getElem_cons hl2)) h46))
       have hPl : Hid ((bs Pl).size ≤ 4611686018427387904) := Lib.hid (by rw [hPl0.out]; decide)
       clear hS3
       go_wp2
       clear q1 q2 hw2 hdd hWg hM h46 h46' hl2
       go_loopw [] (fun wr => ∃ y : ByteArray, y.data.toList.dropWhile (· == 48) = Wl.dropWhile (· == 48) ∧ y.size ≤ 4611686018427387904 ∧ Hid (OfS w w1.heap.size sg y (bs Pl) wr)) (fun wr => sizeAt wr w1.heap.size 1)
       case atStart => exact ⟨bs Wl, by rw [bs_toList], hWs.out, hS⟩
       case round =>
        clear hS
        obtain ⟨y, hy, hyl, hSr⟩ := hrel
        obtain ⟨c1, f1⟩ := hSr.out.c1
        by_cases h0 : 0 < y.size
        ·
         have hfi := Lib.hid (first_at y h0)
         by_cases hx : y[0] = 48
         ·
          have hx' : (y[0].toNat : Int) = 48 := by rw [hx]; rfl
          have hSn := Lib.hid (hSr.out.set1 (y.extract 1 y.size))
          go_wp2
          go_roundw
          case rel => exact ⟨_, by rw [← hy, hfi.out, hx]; rfl, by rw [extract_bs, bs_size, List.length_take]; omega, hSn⟩
          case measure => rw [sizeAt1 hSn.out, sizeAt1 hSr.out, extract_bs, bs_size, List.length_take]; omega
         ·
          have hx' : ((y[0].toNat : Int) == 48) = false := by
           rw [beq_eq_false_iff_ne]; intro e; apply hx; rw [← UInt8.toNat_inj]; show y[0].toNat = 48; omega
          obtain ⟨A, rfl⟩ : ∃ A, A = y := ⟨_, rfl⟩
          have hA : A = bs (Wl.dropWhile (· == 48)) := by
           rw [← hy, hfi.out, List.dropWhile_cons, if_neg (by simpa using hx), ← hfi.out, bs_of]
          have hAe : ¬ (A = (⟨#[]⟩ : ByteArray)) := fun e => by rw [e] at h0; exact absurd h0 (by decide)
          have hS := Lib.hid hSr.out
          replace hA := Lib.hid hA
          replace hAe := Lib.hid hAe
          clear hfi hy
          go_wp2
          clear hx hx' hSr c1 f1
          go_loopw [] (fun wr => ∃ y : ByteArray, trimR (· == 48) y.data.toList = trimR (· == 48) Pl ∧ y.size ≤ 4611686018427387904 ∧ Hid (OfS w w1.heap.size sg A y wr)) (fun wr => sizeAt wr w1.heap.size 2)
          case atStart => exact ⟨bs Pl, by rw [bs_toList], hPl.out, hS⟩
          case round =>
           obtain ⟨y, hy, hyl, hSr⟩ := hrel
           obtain ⟨c1, f1⟩ := hSr.out.c2
           by_cases h0 : 0 < y.size
           ·
            have h1 : y.size - 1 < y.size := by omega
            have hla := Lib.hid (last_at y h0 h1)
            have hsub : wrap64 ((y.size : Int) - 1) = ((y.size - 1 : Nat) : Int) := by unfold wrap64; omega
            by_cases hx : y[y.size - 1] = 48
            ·
             have hx' : (y[y.size - 1].toNat : Int) = 48 := by rw [hx]; rfl
             have hSn := Lib.hid (hSr.out.set2 (y.extract 0 (y.size - 1)))
             go_wp2
             go_roundw
             case rel => exact ⟨_, by rw [← hy, hla.out, trimR_last, hx]; rfl, by rw [extract_bs, bs_size, List.length_take]; omega, hSn⟩
             case measure => rw [sizeAt2 hSn.out, sizeAt2 hSr.out, extract_bs, bs_size, List.length_take]; omega
            ·
             have hx' : ((y[y.size - 1].toNat : Int) == 48) = false := by
              rw [beq_eq_false_iff_ne]; intro e; apply hx; rw [← UInt8.toNat_inj]; show y[y.size - 1].toNat = 48; omega
             have hB : Hid (y = bs (trimR (· == 48) Pl)) := Lib.hid (by
              rw [← hy, hla.out, trimR_last, if_neg (by simpa using hx), ← hla.out, bs_of])
             have hBe : Hid (¬ (y = (⟨#[]⟩ : ByteArray))) := Lib.hid (fun e => by rw [e] at h0; exact absurd h0 (by decide))
             clear hS
             obtain ⟨ae1, ae2, ae3, ae4⟩ := str_some hAe.out
             obtain ⟨sf, hsf⟩ : ∃ sf, sf = sg := ⟨_, rfl⟩
             have hR := Lib.hid (res_a hN.out hA.out hB.out hAe.out hsf)
             have hQ : Hid (OfS w w1.heap.size sf A y wr) := Lib.hid (by rw [hsf]; exact hSr.out)
             replace hsf := Lib.hid hsf
             obtain ⟨k0, k1, k2, k3, k4, k5⟩ := hQ.out.all
             obtain ⟨k6, k7⟩ := hSr.out.c0
             obtain ⟨k8, k9⟩ := hSr.out.c1
             obtain ⟨⟨z0, z1⟩, ⟨z2, z3⟩, ⟨z4, z5⟩, z6⟩ := res_chain hQ.out.two sf A y
             obtain ⟨z7, z8, z9, z10⟩ := two_cells hQ.out.two
             have hZ := Lib.hid z6
             have hB3 := Lib.hid hQ.out.low3
             clear z6
             go_wp2
             clear z0 z1 z2 z3 z4 z5 z7 z8 z9 z10 k0 k1 k2 k3 k4 k5 k6 k7 k8 k9
             refine bodyPost_ret (results_cell_row rfl _ _ w.heap.size 203 #[.int .i64 sf, .string A, .string y] (0, 0) _ rfl hZ.out Tryz.underlying203 rfl (by kernel_rfl)) rfl ⟨by rw [hR.out], hB3.out⟩
           ·
            have he : y.data.toList = [] := List.eq_nil_of_length_eq_zero (by rw [← Lib.size_eq]; omega)
            have hB : Hid (y = bs (trimR (· == 48) Pl)) := Lib.hid (by rw [← hy, he, ← bs_of y, he]; rfl)
            have hB0 : Hid (y.toList = []) := Lib.hid (by rw [Lib.toList_data]; exact he)
            clear hS he
            obtain ⟨ae1, ae2, ae3, ae4⟩ := str_some hAe.out
            obtain ⟨sf, hsf⟩ : ∃ sf, sf = sg := ⟨_, rfl⟩
            have hR := Lib.hid (res_a hN.out hA.out hB.out hAe.out hsf)
            have hQ : Hid (OfS w w1.heap.size sf A y wr) := Lib.hid (by rw [hsf]; exact hSr.out)
            replace hsf := Lib.hid hsf
            obtain ⟨k0, k1, k2, k3, k4, k5⟩ := hQ.out.all
            obtain ⟨k6, k7⟩ := hSr.out.c0
            obtain ⟨k8, k9⟩ := hSr.out.c1
            obtain ⟨⟨z0, z1⟩, ⟨z2, z3⟩, ⟨z4, z5⟩, z6⟩ := res_chain hQ.out.two sf A y
            obtain ⟨z7, z8, z9, z10⟩ := two_cells hQ.out.two
            have hZ := Lib.hid z6
            have hB3 := Lib.hid hQ.out.low3
            clear z6
            go_wp2
            clear z0 z1 z2 z3 z4 z5 z7 z8 z9 z10 k0 k1 k2 k3 k4 k5 k6 k7 k8 k9
            refine bodyPost_ret (results_cell_row rfl _ _ w.heap.size 203 #[.int .i64 sf, .string A, .string y] (0, 0) _ rfl hZ.out Tryz.underlying203 rfl (by kernel_rfl)) rfl ⟨by rw [hR.out], hB3.out⟩
        ·
         have he : y.data.toList = [] := List.eq_nil_of_length_eq_zero (by rw [← Lib.size_eq]; omega)
         obtain ⟨A, rfl⟩ : ∃ A, A = y := ⟨_, rfl⟩
         have hA : Hid (A = bs (Wl.dropWhile (· == 48))) := Lib.hid (by rw [← hy, he, ← bs_of A, he]; rfl)
         have hA0 : Hid (A.toList = []) := Lib.hid (by rw [Lib.toList_data]; exact he)
         have hS := Lib.hid hSr.out
         clear he hy
         go_wp2
         clear hSr c1 f1
         go_loopw [] (fun wr => ∃ y : ByteArray, trimR (· == 48) y.data.toList = trimR (· == 48) Pl ∧ y.size ≤ 4611686018427387904 ∧ Hid (OfS w w1.heap.size sg A y wr)) (fun wr => sizeAt wr w1.heap.size 2)
         case atStart => exact ⟨bs Pl, by rw [bs_toList], hPl.out, hS⟩
         case round =>
          obtain ⟨y, hy, hyl, hSr⟩ := hrel
          obtain ⟨c1, f1⟩ := hSr.out.c2
          by_cases h0 : 0 < y.size
          ·
           have h1 : y.size - 1 < y.size := by omega
           have hla := Lib.hid (last_at y h0 h1)
           have hsub : wrap64 ((y.size : Int) - 1) = ((y.size - 1 : Nat) : Int) := by unfold wrap64; omega
           by_cases hx : y[y.size - 1] = 48
           ·
            have hx' : (y[y.size - 1].toNat : Int) = 48 := by rw [hx]; rfl
            have hSn := Lib.hid (hSr.out.set2 (y.extract 0 (y.size - 1)))
            go_wp2
            go_roundw
            case rel => exact ⟨_, by rw [← hy, hla.out, trimR_last, hx]; rfl, by rw [extract_bs, bs_size, List.length_take]; omega, hSn⟩
            case measure => rw [sizeAt2 hSn.out, sizeAt2 hSr.out, extract_bs, bs_size, List.length_take]; omega
           ·
            have hx' : ((y[y.size - 1].toNat : Int) == 48) = false := by
             rw [beq_eq_false_iff_ne]; intro e; apply hx; rw [← UInt8.toNat_inj]; show y[y.size - 1].toNat = 48; omega
            have hB : Hid (y = bs (trimR (· == 48) Pl)) := Lib.hid (by
             rw [← hy, hla.out, trimR_last, if_neg (by simpa using hx), ← hla.out, bs_of])
            have hBe : Hid (¬ (y = (⟨#[]⟩ : ByteArray))) := Lib.hid (fun e => by rw [e] at h0; exact absurd h0 (by decide))
            clear hS
            have ae := hA0.out
            obtain ⟨ae1, ae2, ae3, ae4⟩ := str_some hBe.out
            obtain ⟨sf, hsf⟩ : ∃ sf, sf = sg := ⟨_, rfl⟩
            have hR := Lib.hid (res_b hN.out hA.out hB.out hBe.out hsf)
            have hQ : Hid (OfS w w1.heap.size sf A y wr) := Lib.hid (by rw [hsf]; exact hSr.out)
            replace hsf := Lib.hid hsf
            obtain ⟨k0, k1, k2, k3, k4, k5⟩ := hQ.out.all
            obtain ⟨k6, k7⟩ := hSr.out.c0
            obtain ⟨k8, k9⟩ := hSr.out.c1
            obtain ⟨⟨z0, z1⟩, ⟨z2, z3⟩, ⟨z4, z5⟩, z6⟩ := res_chain hQ.out.two sf A y
            obtain ⟨z7, z8, z9, z10⟩ := two_cells hQ.out.two
            have hZ := Lib.hid z6
            have hB3 := Lib.hid hQ.out.low3
            clear z6
            go_wp2
            clear z0 z1 z2 z3 z4 z5 z7 z8 z9 z10 k0 k1 k2 k3 k4 k5 k6 k7 k8 k9
            refine bodyPost_ret (results_cell_row rfl _ _ w.heap.size 203 #[.int .i64 sf, .string A, .string y] (0, 0) _ rfl hZ.out Tryz.underlying203 rfl (by kernel_rfl)) rfl ⟨by rw [hR.out], hB3.out⟩
          ·
           have he : y.data.toList = [] := List.eq_nil_of_length_eq_zero (by rw [← Lib.size_eq]; omega)
           have hB : Hid (y = bs (trimR (· == 48) Pl)) := Lib.hid (by rw [← hy, he, ← bs_of y, he]; rfl)
           have hB0 : Hid (y.toList = []) := Lib.hid (by rw [Lib.toList_data]; exact he)
           clear hS he
           have ae := hA0.out
           have be := hB0.out
           obtain ⟨sf, hsf⟩ : ∃ sf : Int, sf = 0 := ⟨_, rfl⟩
           have hR := Lib.hid (res_c hN.out hA.out hB.out ae be hsf)
           have hQ : Hid (OfS w w1.heap.size sf A y (wr.setCell ⟨w1.heap.size, 0, none⟩ (.int .i64 0))) := Lib.hid (by rw [hsf]; exact hSr.out.set0 0)
           replace hsf := Lib.hid hsf
           obtain ⟨k0, k1, k2, k3, k4, k5⟩ := hQ.out.all
           obtain ⟨k6, k7⟩ := hSr.out.c0
           obtain ⟨k8, k9⟩ := hSr.out.c1
           obtain ⟨⟨z0, z1⟩, ⟨z2, z3⟩, ⟨z4, z5⟩, z6⟩ := res_chain hQ.out.two sf A y
           obtain ⟨z7, z8, z9, z10⟩ := two_cells hQ.out.two
           have hZ := Lib.hid z6
           have hB3 := Lib.hid hQ.out.low3
           clear z6
           go_wp2
           clear z0 z1 z2 z3 z4 z5 z7 z8 z9 z10 k0 k1 k2 k3 k4 k5 k6 k7 k8 k9
           refine bodyPost_ret (results_cell_row rfl _ _ w.heap.size 203 #[.int .i64 sf, .string A, .string y] (0, 0) _ rfl hZ.out Tryz.underlying203 rfl (by kernel_rfl)) rfl ⟨by rw [hR.out], hB3.out⟩
     ·
      obtain ⟨Pl, hPl0⟩ : ∃ Pl : List UInt8, Pl = [] := ⟨_, rfl⟩
      replace hPl0 := Lib.hid hPl0
      have hS : Hid (OfS w w1.heap.size sg (bs Wl) (bs Pl) (w2.setCell ⟨w1.heap.size, 1, none⟩ (.string (bs Wl)))) := by rw [hPl0.out]; exact hS3
      have hN : Hid (OfN s.data.toList sg Wl Pl) := Lib.hid (ofN hM.out hWg.out (by
       rw [hPl0.out]; exact part_end (hdd.out.trans (List.drop_eq_nil_of_le (by omega)))))
      have hPl : Hid ((bs Pl).size ≤ 4611686018427387904) := Lib.hid (by rw [hPl0.out]; decide)
      clear hS3
      go_wp2
      clear q1 q2 hw2 hdd hWg hM
      go_loopw [] (fun wr => ∃ y : ByteArray, y.data.toList.dropWhile (· == 48) = Wl.dropWhile (· == 48) ∧ y.size ≤ 4611686018427387904 ∧ Hid (OfS w w1.heap.size sg y (bs Pl) wr)) (fun wr => sizeAt wr w1.heap.size 1)
      case atStart => exact ⟨bs Wl, by rw [bs_toList], hWs.out, hS⟩
      case round =>
       clear hS
       obtain ⟨y, hy, hyl, hSr⟩ := hrel
       obtain ⟨c1, f1⟩ := hSr.out.c1
       by_cases h0 : 0 < y.size
       ·
        have hfi := Lib.hid (first_at y h0)
        by_cases hx : y[0] = 48
        ·
         have hx' : (y[0].toNat : Int) = 48 := by rw [hx]; rfl
         have hSn := Lib.hid (hSr.out.set1 (y.extract 1 y.size))
         go_wp2
         go_roundw
         case rel => exact ⟨_, by rw [← hy, hfi.out, hx]; rfl, by rw [extract_bs, bs_size, List.length_take]; omega, hSn⟩
         case measure => rw [sizeAt1 hSn.out, sizeAt1 hSr.out, extract_bs, bs_size, List.length_take]; omega
        ·
         have hx' : ((y[0].toNat : Int) == 48) = false := by
          rw [beq_eq_false_iff_ne]; intro e; apply hx; rw [← UInt8.toNat_inj]; show y[0].toNat = 48; omega
         obtain ⟨A, rfl⟩ : ∃ A, A = y := ⟨_, rfl⟩
         have hA : A = bs (Wl.dropWhile (· == 48)) := by
          rw [← hy, hfi.out, List.dropWhile_cons, if_neg (by simpa using hx), ← hfi.out, bs_of]
         have hAe : ¬ (A = (⟨#[]⟩ : ByteArray)) := fun e => by rw [e] at h0; exact absurd h0 (by decide)
         have hS := Lib.hid hSr.out
         replace hA := Lib.hid hA
         replace hAe := Lib.hid hAe
         clear hfi hy
         go_wp2
         clear hx hx' hSr c1 f1
         go_loopw [] (fun wr => ∃ y : ByteArray, trimR (· == 48) y.data.toList = trimR (· == 48) Pl ∧ y.size ≤ 4611686018427387904 ∧ Hid (OfS w w1.heap.size sg A y wr)) (fun wr => sizeAt wr w1.heap.size 2)
         case atStart => exact ⟨bs Pl, by rw [bs_toList], hPl.out, hS⟩
         case round =>
          obtain ⟨y, hy, hyl, hSr⟩ := hrel
          obtain ⟨c1, f1⟩ := hSr.out.c2
          by_cases h0 : 0 < y.size
          ·
           have h1 : y.size - 1 < y.size := by omega
           have hla := Lib.hid (last_at y h0 h1)
           have hsub : wrap64 ((y.size : Int) - 1) = ((y.size - 1 : Nat) : Int) := by unfold wrap64; omega
           by_cases hx : y[y.size - 1] = 48
           ·
            have hx' : (y[y.size - 1].toNat : Int) = 48 := by rw [hx]; rfl
            have hSn := Lib.hid (hSr.out.set2 (y.extract 0 (y.size - 1)))
            go_wp2
            go_roundw
            case rel => exact ⟨_, by rw [← hy, hla.out, trimR_last, hx]; rfl, by rw [extract_bs, bs_size, List.length_take]; omega, hSn⟩
            case measure => rw [sizeAt2 hSn.out, sizeAt2 hSr.out, extract_bs, bs_size, List.length_take]; omega
           ·
            have hx' : ((y[y.size - 1].toNat : Int) == 48) = false := by
             rw [beq_eq_false_iff_ne]; intro e; apply hx; rw [← UInt8.toNat_inj]; show y[y.size - 1].toNat = 48; omega
            have hB : Hid (y = bs (trimR (· == 48) Pl)) := Lib.hid (by
             rw [← hy, hla.out, trimR_last, if_neg (by simpa using hx), ← hla.out, bs_of])
            have hBe : Hid (¬ (y = (⟨#[]⟩ : ByteArray))) := Lib.hid (fun e => by rw [e] at h0; exact absurd h0 (by decide))
            clear hS
            obtain ⟨ae1, ae2, ae3, ae4⟩ := str_some hAe.out
            obtain ⟨sf, hsf⟩ : ∃ sf, sf = sg := ⟨_, rfl⟩
            have hR := Lib.hid (res_a hN.out hA.out hB.out hAe.out hsf)
            have hQ : Hid (OfS w w1.heap.size sf A y wr) := Lib.hid (by rw [hsf]; exact hSr.out)
            replace hsf := Lib.hid hsf
            obtain ⟨k0, k1, k2, k3, k4, k5⟩ := hQ.out.all
            obtain ⟨k6, k7⟩ := hSr.out.c0
            obtain ⟨k8, k9⟩ := hSr.out.c1
            obtain ⟨⟨z0, z1⟩, ⟨z2, z3⟩, ⟨z4, z5⟩, z6⟩ := res_chain hQ.out.two sf A y
            obtain ⟨z7, z8, z9, z10⟩ := two_cells hQ.out.two
            have hZ := Lib.hid z6
            have hB3 := Lib.hid hQ.out.low3
            clear z6
            go_wp2
            clear z0 z1 z2 z3 z4 z5 z7 z8 z9 z10 k0 k1 k2 k3 k4 k5 k6 k7 k8 k9
            refine bodyPost_ret (results_cell_row rfl _ _ w.heap.size 203 #[.int .i64 sf, .string A, .string y] (0, 0) _ rfl hZ.out Tryz.underlying203 rfl (by kernel_rfl)) rfl ⟨by rw [hR.out], hB3.out⟩
          ·
           have he : y.data.toList = [] := List.eq_nil_of_length_eq_zero (by rw [← Lib.size_eq]; omega)
           have hB : Hid (y = bs (trimR (· == 48) Pl)) := Lib.hid (by rw [← hy, he, ← bs_of y, he]; rfl)
           have hB0 : Hid (y.toList = []) := Lib.hid (by rw [Lib.toList_data]; exact he)
           clear hS he
           obtain ⟨ae1, ae2, ae3, ae4⟩ := str_some hAe.out
           obtain ⟨sf, hsf⟩ : ∃ sf, sf = sg := ⟨_, rfl⟩
           have hR := Lib.hid (res_a hN.out hA.out hB.out hAe.out hsf)
           have hQ : Hid (OfS w w1.heap.size sf A y wr) := Lib.hid (by rw [hsf]; exact hSr.out)
           replace hsf := Lib.hid hsf
           obtain ⟨k0, k1, k2, k3, k4, k5⟩ := hQ.out.all
           obtain ⟨k6, k7⟩ := hSr.out.c0
           obtain ⟨k8, k9⟩ := hSr.out.c1
           obtain ⟨⟨z0, z1⟩, ⟨z2, z3⟩, ⟨z4, z5⟩, z6⟩ := res_chain hQ.out.two sf A y
           obtain ⟨z7, z8, z9, z10⟩ := two_cells hQ.out.two
           have hZ := Lib.hid z6
           have hB3 := Lib.hid hQ.out.low3
           clear z6
           go_wp2
           clear z0 z1 z2 z3 z4 z5 z7 z8 z9 z10 k0 k1 k2 k3 k4 k5 k6 k7 k8 k9
           refine bodyPost_ret (results_cell_row rfl _ _ w.heap.size 203 #[.int .i64 sf, .string A, .string y] (0, 0) _ rfl hZ.out Tryz.underlying203 rfl (by kernel_rfl)) rfl ⟨by rw [hR.out], hB3.out⟩
       ·
        have he : y.data.toList = [] := List.eq_nil_of_length_eq_zero (by rw [← Lib.size_eq]; omega)
        obtain ⟨A, rfl⟩ : ∃ A, A = y := ⟨_, rfl⟩
        have hA : Hid (A = bs (Wl.dropWhile (· == 48))) := Lib.hid (by rw [← hy, he, ← bs_of A, he]; rfl)
        have hA0 : Hid (A.toList = []) := Lib.hid (by rw [Lib.toList_data]; exact he)
        have hS := Lib.hid hSr.out
        clear he hy
        go_wp2
        clear hSr c1 f1
        go_loopw [] (fun wr => ∃ y : ByteArray, trimR (· == 48) y.data.toList = trimR (· == 48) Pl ∧ y.size ≤ 4611686018427387904 ∧ Hid (OfS w w1.heap.size sg A y wr)) (fun wr => sizeAt wr w1.heap.size 2)
        case atStart => exact ⟨bs Pl, by rw [bs_toList], hPl.out, hS⟩
        case round =>
         obtain ⟨y, hy, hyl, hSr⟩ := hrel
         obtain ⟨c1, f1⟩ := hSr.out.c2
         by_cases h0 : 0 < y.size
         ·
          have h1 : y.size - 1 < y.size := by omega
          have hla := Lib.hid (last_at y h0 h1)
          have hsub : wrap64 ((y.size : Int) - 1) = ((y.size - 1 : Nat) : Int) := by unfold wrap64; omega
          by_cases hx : y[y.size - 1] = 48
          ·
           have hx' : (y[y.size - 1].toNat : Int) = 48 := by rw [hx]; rfl
           have hSn := Lib.hid (hSr.out.set2 (y.extract 0 (y.size - 1)))
           go_wp2
           go_roundw
           case rel => exact ⟨_, by rw [← hy, hla.out, trimR_last, hx]; rfl, by rw [extract_bs, bs_size, List.length_take]; omega, hSn⟩
           case measure => rw [sizeAt2 hSn.out, sizeAt2 hSr.out, extract_bs, bs_size, List.length_take]; omega
          ·
           have hx' : ((y[y.size - 1].toNat : Int) == 48) = false := by
            rw [beq_eq_false_iff_ne]; intro e; apply hx; rw [← UInt8.toNat_inj]; show y[y.size - 1].toNat = 48; omega
           have hB : Hid (y = bs (trimR (· == 48) Pl)) := Lib.hid (by
            rw [← hy, hla.out, trimR_last, if_neg (by simpa using hx), ← hla.out, bs_of])
           have hBe : Hid (¬ (y = (⟨#[]⟩ : ByteArray))) := Lib.hid (fun e => by rw [e] at h0; exact absurd h0 (by decide))
           clear hS
           have ae := hA0.out
           obtain ⟨ae1, ae2, ae3, ae4⟩ := str_some hBe.out
           obtain ⟨sf, hsf⟩ : ∃ sf, sf = sg := ⟨_, rfl⟩
           have hR := Lib.hid (res_b hN.out hA.out hB.out hBe.out hsf)
           have hQ : Hid (OfS w w1.heap.size sf A y wr) := Lib.hid (by rw [hsf]; exact hSr.out)
           replace hsf := Lib.hid hsf
           obtain ⟨k0, k1, k2, k3, k4, k5⟩ := hQ.out.all
           obtain ⟨k6, k7⟩ := hSr.out.c0
           obtain ⟨k8, k9⟩ := hSr.out.c1
           obtain ⟨⟨z0, z1⟩, ⟨z2, z3⟩, ⟨z4, z5⟩, z6⟩ := res_chain hQ.out.two sf A y
           obtain ⟨z7, z8, z9, z10⟩ := two_cells hQ.out.two
           have hZ := Lib.hid z6
           have hB3 := Lib.hid hQ.out.low3
           clear z6
           go_wp2
           clear z0 z1 z2 z3 z4 z5 z7 z8 z9 z10 k0 k1 k2 k3 k4 k5 k6 k7 k8 k9
           refine bodyPost_ret (results_cell_row rfl _ _ w.heap.size 203 #[.int .i64 sf, .string A, .string y] (0, 0) _ rfl hZ.out Tryz.underlying203 rfl (by kernel_rfl)) rfl ⟨by rw [hR.out], hB3.out⟩
         ·
          have he : y.data.toList = [] := List.eq_nil_of_length_eq_zero (by rw [← Lib.size_eq]; omega)
          have hB : Hid (y = bs (trimR (· == 48) Pl)) := Lib.hid (by rw [← hy, he, ← bs_of y, he]; rfl)
          have hB0 : Hid (y.toList = []) := Lib.hid (by rw [Lib.toList_data]; exact he)
          clear hS he
          have ae := hA0.out
          have be := hB0.out
          obtain ⟨sf, hsf⟩ : ∃ sf : Int, sf = 0 := ⟨_, rfl⟩
          have hR := Lib.hid (res_c hN.out hA.out hB.out ae be hsf)
          have hQ : Hid (OfS w w1.heap.size sf A y (wr.setCell ⟨w1.heap.size, 0, none⟩ (.int .i64 0))) := Lib.hid (by rw [hsf]; exact hSr.out.set0 0)
          replace hsf := Lib.hid hsf
          obtain ⟨k0, k1, k2, k3, k4, k5⟩ := hQ.out.all
          obtain ⟨k6, k7⟩ := hSr.out.c0
          obtain ⟨k8, k9⟩ := hSr.out.c1
          obtain ⟨⟨z0, z1⟩, ⟨z2, z3⟩, ⟨z4, z5⟩, z6⟩ := res_chain hQ.out.two sf A y
          obtain ⟨z7, z8, z9, z10⟩ := two_cells hQ.out.two
          have hZ := Lib.hid z6
          have hB3 := Lib.hid hQ.out.low3
          clear z6
          go_wp2
          clear z0 z1 z2 z3 z4 z5 z7 z8 z9 z10 k0 k1 k2 k3 k4 k5 k6 k7 k8 k9
          refine bodyPost_ret (results_cell_row rfl _ _ w.heap.size 203 #[.int .i64 sf, .string A, .string y] (0, 0) _ rfl hZ.out Tryz.underlying203 rfl (by kernel_rfl)) rfl ⟨by rw [hR.out], hB3.out⟩
    ·
     have h45' : ((s[k].toNat : Int) == 45) = false := ne_beq 45 rfl h45
     obtain ⟨sg, hsg⟩ : ∃ sg : Int, sg = 1 := ⟨_, rfl⟩
     have hS1 : Hid (OfS w w1.heap.size sg ⟨#[]⟩ ⟨#[]⟩ (w1.alloc (.cells #[.int .i64 1, .string ⟨#[]⟩, .string ⟨#[]⟩] 203 (0, 0)))) := by rw [hsg]; exact Lib.hid (OfS.new htwo1 hb1.out 1)
     have hM : Hid ((minusOf (s.data.toList.dropWhile blankC)).2 = s.data.toList.drop k ∧ (if (minusOf (s.data.toList.dropWhile blankC)).1 = true then (-1 : Int) else 1) = sg) := Lib.hid (by
      rw [hcons.out, hdropk.out, hsg, minus_other h45]; exact ⟨rfl, rfl⟩)
     clear hcons hdropk hsg
     go_wp2_with fail
     obtain ⟨a1, rfl⟩ : ∃ a1, a1 = k := ⟨_, rfl⟩
     have hal : a1 ≤ s.size := by omega
     refine (Q.toolchestref05_run.calls (s.size + 1) s (a1 : Int) _ _ (run_f s hs a1 hal)).mono ?_
     rintro e w2 ⟨rfl, hd2⟩
     have hS2 := Lib.hid (hS1.out.drawn hd2)
     have hdd := Lib.hid (drop_digits s.data.toList a1)
     have hle : ((s.data.toList.drop a1).takeWhile digitC).length ≤ s.data.toList.length - a1 := by
      rw [← List.length_drop]; exact (List.takeWhile_sublist _).length_le
     have hWz : ((s.data.toList.drop a1).takeWhile digitC).length ≤ s.size := by omega
     have hWl := Lib.hid (Eq.refl ((s.data.toList.drop a1).takeWhile digitC))
     generalize hWg : (s.data.toList.drop a1).takeWhile digitC = Wl at hdd hle hWz ⊢
     replace hWg := Lib.hid hWg
     have hw2 : wrap64 ((a1 : Int) + ((bs Wl).size : Int)) = ((a1 + Wl.length : Nat) : Int) := by rw [bs_size]; unfold wrap64; omega
     have hal2 : a1 + Wl.length ≤ s.size := by omega
     generalize a1 + Wl.length = a2 at hw2 hal2 hdd
     have hWs : Hid ((bs Wl).size ≤ 4611686018427387904) := Lib.hid (by rw [bs_size]; omega)
     have hS3 := Lib.hid (hS2.out.set1 (bs Wl))
     obtain ⟨q1, q2⟩ := hS2.out.c1
     clear hd2 hS2 hS1 hle hWl hWz
     by_cases hlt2 : a2 < s.size
     ·
      have hl2 : a2 < s.data.toList.length := by rw [hz]; exact hlt2
      by_cases h46 : s[a2] = 46
      ·
       have h46' : (s[a2].toNat : Int) = 46 := by rw [h46]; rfl
       have hN1 := Lib.hid (show (s.data.toList.drop a1).dropWhile digitC = 46 :: s.data.toList.drop (a2 + 1) by
        rw [hdd.out]; have := List.drop_eq_getElem_cons hl2; rw [this]; congr 1)
       obtain ⟨q3, q4⟩ := hS3.out.c2
       have hwa : wrap64 ((a2 : Int) + 1) = ((a2 + 1 : Nat) : Int) := by unfold wrap64; omega
       go_wp2_with fail
       rw [show (a2 : Int) + 1 = ((a2 + 1 : Nat) : Int) by omega]
       refine (Q.toolchestref05_run.calls (s.size + 1) s ((a2 + 1 : Nat) : Int) _ _ (run_f s hs (a2 + 1) hlt2)).mono ?_
       rintro e w3 ⟨rfl, hd3⟩
       have hS4 := Lib.hid (hS3.out.drawn hd3)
       have hPz : ((s.data.toList.drop (a2 + 1)).takeWhile digitC).length ≤ s.data.toList.length := by
        refine Nat.le_trans (List.takeWhile_sublist _).length_le ?_
        rw [List.length_drop]; omega
       have hN : Hid (OfN s.data.toList sg Wl ((s.data.toList.drop (a2 + 1)).takeWhile digitC)) := Lib.hid (ofN hM.out hWg.out (part_dot hN1.out))
       generalize (s.data.toList.drop (a2 + 1)).takeWhile digitC = Pl at hN hPz ⊢
       have hPl : Hid ((bs Pl).size ≤ 4611686018427387904) := Lib.hid (by rw [bs_size]; omega)
       have hS := Lib.hid (hS4.out.set2 (bs Pl))
       obtain ⟨q5, q6⟩ := hS4.out.c2
       clear hd3 hS3 hN1 hPz q1 q2 q3 q4 hwa
       go_wp2
       clear hS4 q5 q6 hw2 hdd hWg hM h46 h46' hl2
       go_loopw [] (fun wr => ∃ y : ByteArray, y.data.toList.dropWhile (· == 48) = Wl.dropWhile (· == 48) ∧ y.size ≤ 4611686018427387904 ∧ Hid (OfS w w1.heap.size sg y (bs Pl) wr)) (fun wr => sizeAt wr w1.heap.size 1)
       case atStart => exact ⟨bs Wl, by rw [bs_toList], hWs.out, hS⟩
       case round =>
        clear hS
        obtain ⟨y, hy, hyl, hSr⟩ := hrel
        obtain ⟨c1, f1⟩ := hSr.out.c1
        by_cases h0 : 0 < y.size
        ·
         have hfi := Lib.hid (first_at y h0)
         by_cases hx : y[0] = 48
         ·
          have hx' : (y[0].toNat : Int) = 48 := by rw [hx]; rfl
          have hSn := Lib.hid (hSr.out.set1 (y.extract 1 y.size))
          go_wp2
          go_roundw
          case rel => exact ⟨_, by rw [← hy, hfi.out, hx]; rfl, by rw [extract_bs, bs_size, List.length_take]; omega, hSn⟩
          case measure => rw [sizeAt1 hSn.out, sizeAt1 hSr.out, extract_bs, bs_size, List.length_take]; omega
         ·
          have hx' : ((y[0].toNat : Int) == 48) = false := by
           rw [beq_eq_false_iff_ne]; intro e; apply hx; rw [← UInt8.toNat_inj]; show y[0].toNat = 48; omega
          obtain ⟨A, rfl⟩ : ∃ A, A = y := ⟨_, rfl⟩
          have hA : A = bs (Wl.dropWhile (· == 48)) := by
           rw [← hy, hfi.out, List.dropWhile_cons, if_neg (by simpa using hx), ← hfi.out, bs_of]
          have hAe : ¬ (A = (⟨#[]⟩ : ByteArray)) := fun e => by rw [e] at h0; exact absurd h0 (by decide)
          have hS := Lib.hid hSr.out
          replace hA := Lib.hid hA
          replace hAe := Lib.hid hAe
          clear hfi hy
          go_wp2
          clear hx hx' hSr c1 f1
          go_loopw [] (fun wr => ∃ y : ByteArray, trimR (· == 48) y.data.toList = trimR (· == 48) Pl ∧ y.size ≤ 4611686018427387904 ∧ Hid (OfS w w1.heap.size sg A y wr)) (fun wr => sizeAt wr w1.heap.size 2)
          case atStart => exact ⟨bs Pl, by rw [bs_toList], hPl.out, hS⟩
          case round =>
           obtain ⟨y, hy, hyl, hSr⟩ := hrel
           obtain ⟨c1, f1⟩ := hSr.out.c2
           by_cases h0 : 0 < y.size
           ·
            have h1 : y.size - 1 < y.size := by omega
            have hla := Lib.hid (last_at y h0 h1)
            have hsub : wrap64 ((y.size : Int) - 1) = ((y.size - 1 : Nat) : Int) := by unfold wrap64; omega
            by_cases hx : y[y.size - 1] = 48
            ·
             have hx' : (y[y.size - 1].toNat : Int) = 48 := by rw [hx]; rfl
             have hSn := Lib.hid (hSr.out.set2 (y.extract 0 (y.size - 1)))
             go_wp2
             go_roundw
             case rel => exact ⟨_, by rw [← hy, hla.out, trimR_last, hx]; rfl, by rw [extract_bs, bs_size, List.length_take]; omega, hSn⟩
             case measure => rw [sizeAt2 hSn.out, sizeAt2 hSr.out, extract_bs, bs_size, List.length_take]; omega
            ·
             have hx' : ((y[y.size - 1].toNat : Int) == 48) = false := by
              rw [beq_eq_false_iff_ne]; intro e; apply hx; rw [← UInt8.toNat_inj]; show y[y.size - 1].toNat = 48; omega
             have hB : Hid (y = bs (trimR (· == 48) Pl)) := Lib.hid (by
              rw [← hy, hla.out, trimR_last, if_neg (by simpa using hx), ← hla.out, bs_of])
             have hBe : Hid (¬ (y = (⟨#[]⟩ : ByteArray))) := Lib.hid (fun e => by rw [e] at h0; exact absurd h0 (by decide))
             clear hS
             obtain ⟨ae1, ae2, ae3, ae4⟩ := str_some hAe.out
             obtain ⟨sf, hsf⟩ : ∃ sf, sf = sg := ⟨_, rfl⟩
             have hR := Lib.hid (res_a hN.out hA.out hB.out hAe.out hsf)
             have hQ : Hid (OfS w w1.heap.size sf A y wr) := Lib.hid (by rw [hsf]; exact hSr.out)
             replace hsf := Lib.hid hsf
             obtain ⟨k0, k1, k2, k3, k4, k5⟩ := hQ.out.all
             obtain ⟨k6, k7⟩ := hSr.out.c0
             obtain ⟨k8, k9⟩ := hSr.out.c1
             obtain ⟨⟨z0, z1⟩, ⟨z2, z3⟩, ⟨z4, z5⟩, z6⟩ := res_chain hQ.out.two sf A y
             obtain ⟨z7, z8, z9, z10⟩ := two_cells hQ.out.two
             have hZ := Lib.hid z6
             have hB3 := Lib.hid hQ.out.low3
             clear z6
             go_wp2
             clear z0 z1 z2 z3 z4 z5 z7 z8 z9 z10 k0 k1 k2 k3 k4 k5 k6 k7 k8 k9
             refine bodyPost_ret (results_cell_row rfl _ _ w.heap.size 203 #[.int .i64 sf, .string A, .string y] (0, 0) _ rfl hZ.out Tryz.underlying203 rfl (by kernel_rfl)) rfl ⟨by rw [hR.out], hB3.out⟩
           ·
            have he : y.data.toList = [] := List.eq_nil_of_length_eq_zero (by rw [← Lib.size_eq]; omega)
            have hB : Hid (y = bs (trimR (· == 48) Pl)) := Lib.hid (by rw [← hy, he, ← bs_of y, he]; rfl)
            have hB0 : Hid (y.toList = []) := Lib.hid (by rw [Lib.toList_data]; exact he)
            clear hS he
            obtain ⟨ae1, ae2, ae3, ae4⟩ := str_some hAe.out
            obtain ⟨sf, hsf⟩ : ∃ sf, sf = sg := ⟨_, rfl⟩
            have hR := Lib.hid (res_a hN.out hA.out hB.out hAe.out hsf)
            have hQ : Hid (OfS w w1.heap.size sf A y wr) := Lib.hid (by rw [hsf]; exact hSr.out)
            replace hsf := Lib.hid hsf
            obtain ⟨k0, k1, k2, k3, k4, k5⟩ := hQ.out.all
            obtain ⟨k6, k7⟩ := hSr.out.c0
            obtain ⟨k8, k9⟩ := hSr.out.c1
            obtain ⟨⟨z0, z1⟩, ⟨z2, z3⟩, ⟨z4, z5⟩, z6⟩ := res_chain hQ.out.two sf A y
            obtain ⟨z7, z8, z9, z10⟩ := two_cells hQ.out.two
            have hZ := Lib.hid z6
            have hB3 := Lib.hid hQ.out.low3
            clear z6
            go_wp2
            clear z0 z1 z2 z3 z4 z5 z7 z8 z9 z10 k0 k1 k2 k3 k4 k5 k6 k7 k8 k9
            refine bodyPost_ret (results_cell_row rfl _ _ w.heap.size 203 #[.int .i64 sf, .string A, .string y] (0, 0) _ rfl hZ.out Tryz.underlying203 rfl (by kernel_rfl)) rfl ⟨by rw [hR.out], hB3.out⟩
        ·
         have he : y.data.toList = [] := List.eq_nil_of_length_eq_zero (by rw [← Lib.size_eq]; omega)
         obtain ⟨A, rfl⟩ : ∃ A, A = y := ⟨_, rfl⟩
         have hA : Hid (A = bs (Wl.dropWhile (· == 48))) := Lib.hid (by rw [← hy, he, ← bs_of A, he]; rfl)
         have hA0 : Hid (A.toList = []) := Lib.hid (by rw [Lib.toList_data]; exact he)
         have hS := Lib.hid hSr.out
         clear he hy
         go_wp2
         clear hSr c1 f1
         go_loopw [] (fun wr => ∃ y : ByteArray, trimR (· == 48) y.data.toList = trimR (· == 48) Pl ∧ y.size ≤ 4611686018427387904 ∧ Hid (OfS w w1.heap.size sg A y wr)) (fun wr => sizeAt wr w1.heap.size 2)
         case atStart => exact ⟨bs Pl, by rw [bs_toList], hPl.out, hS⟩
         case round =>
          obtain ⟨y, hy, hyl, hSr⟩ := hrel
          obtain ⟨c1, f1⟩ := hSr.out.c2
          by_cases h0 : 0 < y.size
          ·
           have h1 : y.size - 1 < y.size := by omega
           have hla := Lib.hid (last_at y h0 h1)
           have hsub : wrap64 ((y.size : Int) - 1) = ((y.size - 1 : Nat) : Int) := by unfold wrap64; omega
           by_cases hx : y[y.size - 1] = 48
           ·
            have hx' : (y[y.size - 1].toNat : Int) = 48 := by rw [hx]; rfl
            have hSn := Lib.hid (hSr.out.set2 (y.extract 0 (y.size - 1)))
            go_wp2
            go_roundw
            case rel => exact ⟨_, by rw [← hy, hla.out, trimR_last, hx]; rfl, by rw [extract_bs, bs_size, List.length_take]; omega, hSn⟩
            case measure => rw [sizeAt2 hSn.out, sizeAt2 hSr.out, extract_bs, bs_size, List.length_take]; omega
           ·
            have hx' : ((y[y.size - 1].toNat : Int) == 48) = false := by
             rw [beq_eq_false_iff_ne]; intro e; apply hx; rw [← UInt8.toNat_inj]; show y[y.size - 1].toNat = 48; omega
            have hB : Hid (y = bs (trimR (· == 48) Pl)) := Lib.hid (by
             rw [← hy, hla.out, trimR_last, if_neg (by simpa using hx), ← hla.out, bs_of])
            have hBe : Hid (¬ (y = (⟨#[]⟩ : ByteArray))) := Lib.hid (fun e => by rw [e] at h0; exact absurd h0 (by decide))
            clear hS
            have ae := hA0.out
            obtain ⟨ae1, ae2, ae3, ae4⟩ := str_some hBe.out
            obtain ⟨sf, hsf⟩ : ∃ sf, sf = sg := ⟨_, rfl⟩
            have hR := Lib.hid (res_b hN.out hA.out hB.out hBe.out hsf)
            have hQ : Hid (OfS w w1.heap.size sf A y wr) := Lib.hid (by rw [hsf]; exact hSr.out)
            replace hsf := Lib.hid hsf
            obtain ⟨k0, k1, k2, k3, k4, k5⟩ := hQ.out.all
            obtain ⟨k6, k7⟩ := hSr.out.c0
            obtain ⟨k8, k9⟩ := hSr.out.c1
            obtain ⟨⟨z0, z1⟩, ⟨z2, z3⟩, ⟨z4, z5⟩, z6⟩ := res_chain hQ.out.two sf A y
            obtain ⟨z7, z8, z9, z10⟩ := two_cells hQ.out.two
            have hZ := Lib.hid z6
            have hB3 := Lib.hid hQ.out.low3
            clear z6
            go_wp2
            clear z0 z1 z2 z3 z4 z5 z7 z8 z9 z10 k0 k1 k2 k3 k4 k5 k6 k7 k8 k9
            refine bodyPost_ret (results_cell_row rfl _ _ w.heap.size 203 #[.int .i64 sf, .string A, .string y] (0, 0) _ rfl hZ.out Tryz.underlying203 rfl (by kernel_rfl)) rfl ⟨by rw [hR.out], hB3.out⟩
          ·
           have he : y.data.toList = [] := List.eq_nil_of_length_eq_zero (by rw [← Lib.size_eq]; omega)
           have hB : Hid (y = bs (trimR (· == 48) Pl)) := Lib.hid (by rw [← hy, he, ← bs_of y, he]; rfl)
           have hB0 : Hid (y.toList = []) := Lib.hid (by rw [Lib.toList_data]; exact he)
           clear hS he
           have ae := hA0.out
           have be := hB0.out
           obtain ⟨sf, hsf⟩ : ∃ sf : Int, sf = 0 := ⟨_, rfl⟩
           have hR := Lib.hid (res_c hN.out hA.out hB.out ae be hsf)
           have hQ : Hid (OfS w w1.heap.size sf A y (wr.setCell ⟨w1.heap.size, 0, none⟩ (.int .i64 0))) := Lib.hid (by rw [hsf]; exact hSr.out.set0 0)
           replace hsf := Lib.hid hsf
           obtain ⟨k0, k1, k2, k3, k4, k5⟩ := hQ.out.all
           obtain ⟨k6, k7⟩ := hSr.out.c0
           obtain ⟨k8, k9⟩ := hSr.out.c1
           obtain ⟨⟨z0, z1⟩, ⟨z2, z3⟩, ⟨z4, z5⟩, z6⟩ := res_chain hQ.out.two sf A y
           obtain ⟨z7, z8, z9, z10⟩ := two_cells hQ.out.two
           have hZ := Lib.hid z6
           have hB3 := Lib.hid hQ.out.low3
           clear z6
           go_wp2
           clear z0 z1 z2 z3 z4 z5 z7 z8 z9 z10 k0 k1 k2 k3 k4 k5 k6 k7 k8 k9
           refine bodyPost_ret (results_cell_row rfl _ _ w.heap.size 203 #[.int .i64 sf, .string A, .string y] (0, 0) _ rfl hZ.out Tryz.underlying203 rfl (by kernel_rfl)) rfl ⟨by rw [hR.out], hB3.out⟩
      ·
       have h46' : ((s[a2].toNat : Int) == 46) = false := ne_beq 46 rfl h46
       obtain ⟨Pl, hPl0⟩ : ∃ Pl : List UInt8, Pl = [] := ⟨_, rfl⟩
       replace hPl0 := Lib.hid hPl0
       have hS : Hid (OfS w w1.heap.size sg (bs Wl) (bs Pl) (w2.setCell ⟨w1.heap.size, 1, none⟩ (.string (bs Wl)))) := by rw [hPl0.out]; exact hS3
       have hN : Hid (OfN s.data.toList sg Wl Pl) := Lib.hid (ofN hM.out hWg.out (by
        rw [hPl0.out]; exact part_other (hdd.out.trans (List.drop_eq_getElem_cons hl2)) h46))
       have hPl : Hid ((bs Pl).size ≤ 4611686018427387904) := Lib.hid (by rw [hPl0.out]; decide)
       clear hS3
       go_wp2
       clear q1 q2 hw2 hdd hWg hM h46 h46' hl2
       go_loopw [] (fun wr => ∃ y : ByteArray, y.data.toList.dropWhile (· == 48) = Wl.dropWhile (· == 48) ∧ y.size ≤ 4611686018427387904 ∧ Hid (OfS w w1.heap.size sg y (bs Pl) wr)) (fun wr => sizeAt wr w1.heap.size 1)
       case atStart => exact ⟨bs Wl, by rw [bs_toList], hWs.out, hS⟩
       case round =>
        clear hS
        obtain ⟨y, hy, hyl, hSr⟩ := hrel
        obtain ⟨c1, f1⟩ := hSr.out.c1
        by_cases h0 : 0 < y.size
        ·
         have hfi := Lib.hid (first_at y h0)
         by_cases hx : y[0] = 48
         ·
          have hx' : (y[0].toNat : Int) = 48 := by rw [hx]; rfl
          have hSn := Lib.hid (hSr.out.set1 (y.extract 1 y.size))
          go_wp2
          go_roundw
          case rel => exact ⟨_, by rw [← hy, hfi.out, hx]; rfl, by rw [extract_bs, bs_size, List.length_take]; omega, hSn⟩
          case measure => rw [sizeAt1 hSn.out, sizeAt1 hSr.out, extract_bs, bs_size, List.length_take]; omega
         ·
          have hx' : ((y[0].toNat : Int) == 48) = false := by
           rw [beq_eq_false_iff_ne]; intro e; apply hx; rw [← UInt8.toNat_inj]; show y[0].toNat = 48; omega
          obtain ⟨A, rfl⟩ : ∃ A, A = y := ⟨_, rfl⟩
          have hA : A = bs (Wl.dropWhile (· == 48)) := by
           rw [← hy, hfi.out, List.dropWhile_cons, if_neg (by simpa using hx), ← hfi.out, bs_of]
          have hAe : ¬ (A = (⟨#[]⟩ : ByteArray)) := fun e => by rw [e] at h0; exact absurd h0 (by decide)
          have hS := Lib.hid hSr.out
          replace hA := Lib.hid hA
          replace hAe := Lib.hid hAe
          clear hfi hy
          go_wp2
          clear hx hx' hSr c1 f1
          go_loopw [] (fun wr => ∃ y : ByteArray, trimR (· == 48) y.data.toList = trimR (· == 48) Pl ∧ y.size ≤ 4611686018427387904 ∧ Hid (OfS w w1.heap.size sg A y wr)) (fun wr => sizeAt wr w1.heap.size 2)
          case atStart => exact ⟨bs Pl, by rw [bs_toList], hPl.out, hS⟩
          case round =>
           obtain ⟨y, hy, hyl, hSr⟩ := hrel
           obtain ⟨c1, f1⟩ := hSr.out.c2
           by_cases h0 : 0 < y.size
           ·
            have h1 : y.size - 1 < y.size := by omega
            have hla := Lib.hid (last_at y h0 h1)
            have hsub : wrap64 ((y.size : Int) - 1) = ((y.size - 1 : Nat) : Int) := by unfold wrap64; omega
            by_cases hx : y[y.size - 1] = 48
            ·
             have hx' : (y[y.size - 1].toNat : Int) = 48 := by rw [hx]; rfl
             have hSn := Lib.hid (hSr.out.set2 (y.extract 0 (y.size - 1)))
             go_wp2
             go_roundw
             case rel => exact ⟨_, by rw [← hy, hla.out, trimR_last, hx]; rfl, by rw [extract_bs, bs_size, List.length_take]; omega, hSn⟩
             case measure => rw [sizeAt2 hSn.out, sizeAt2 hSr.out, extract_bs, bs_size, List.length_take]; omega
            ·
             have hx' : ((y[y.size - 1].toNat : Int) == 48) = false := by
              rw [beq_eq_false_iff_ne]; intro e; apply hx; rw [← UInt8.toNat_inj]; show y[y.size - 1].toNat = 48; omega
             have hB : Hid (y = bs (trimR (· == 48) Pl)) := Lib.hid (by
              rw [← hy, hla.out, trimR_last, if_neg (by simpa using hx), ← hla.out, bs_of])
             have hBe : Hid (¬ (y = (⟨#[]⟩ : ByteArray))) := Lib.hid (fun e => by rw [e] at h0; exact absurd h0 (by decide))
             clear hS
             obtain ⟨ae1, ae2, ae3, ae4⟩ := str_some hAe.out
             obtain ⟨sf, hsf⟩ : ∃ sf, sf = sg := ⟨_, rfl⟩
             have hR := Lib.hid (res_a hN.out hA.out hB.out hAe.out hsf)
             have hQ : Hid (OfS w w1.heap.size sf A y wr) := Lib.hid (by rw [hsf]; exact hSr.out)
             replace hsf := Lib.hid hsf
             obtain ⟨k0, k1, k2, k3, k4, k5⟩ := hQ.out.all
             obtain ⟨k6, k7⟩ := hSr.out.c0
             obtain ⟨k8, k9⟩ := hSr.out.c1
             obtain ⟨⟨z0, z1⟩, ⟨z2, z3⟩, ⟨z4, z5⟩, z6⟩ := res_chain hQ.out.two sf A y
             obtain ⟨z7, z8, z9, z10⟩ := two_cells hQ.out.two
             have hZ := Lib.hid z6
             have hB3 := Lib.hid hQ.out.low3
             clear z6
             go_wp2
             clear z0 z1 z2 z3 z4 z5 z7 z8 z9 z10 k0 k1 k2 k3 k4 k5 k6 k7 k8 k9
             refine bodyPost_ret (results_cell_row rfl _ _ w.heap.size 203 #[.int .i64 sf, .string A, .string y] (0, 0) _ rfl hZ.out Tryz.underlying203 rfl (by kernel_rfl)) rfl ⟨by rw [hR.out], hB3.out⟩
           ·
            have he : y.data.toList = [] := List.eq_nil_of_length_eq_zero (by rw [← Lib.size_eq]; omega)
            have hB : Hid (y = bs (trimR (· == 48) Pl)) := Lib.hid (by rw [← hy, he, ← bs_of y, he]; rfl)
            have hB0 : Hid (y.toList = []) := Lib.hid (by rw [Lib.toList_data]; exact he)
            clear hS he
            obtain ⟨ae1, ae2, ae3, ae4⟩ := str_some hAe.out
            obtain ⟨sf, hsf⟩ : ∃ sf, sf = sg := ⟨_, rfl⟩
            have hR := Lib.hid (res_a hN.out hA.out hB.out hAe.out hsf)
            have hQ : Hid (OfS w w1.heap.size sf A y wr) := Lib.hid (by rw [hsf]; exact hSr.out)
            replace hsf := Lib.hid hsf
            obtain ⟨k0, k1, k2, k3, k4, k5⟩ := hQ.out.all
            obtain ⟨k6, k7⟩ := hSr.out.c0
            obtain ⟨k8, k9⟩ := hSr.out.c1
            obtain ⟨⟨z0, z1⟩, ⟨z2, z3⟩, ⟨z4, z5⟩, z6⟩ := res_chain hQ.out.two sf A y
            obtain ⟨z7, z8, z9, z10⟩ := two_cells hQ.out.two
            have hZ := Lib.hid z6
            have hB3 := Lib.hid hQ.out.low3
            clear z6
            go_wp2
            clear z0 z1 z2 z3 z4 z5 z7 z8 z9 z10 k0 k1 k2 k3 k4 k5 k6 k7 k8 k9
            refine bodyPost_ret (results_cell_row rfl _ _ w.heap.size 203 #[.int .i64 sf, .string A, .string y] (0, 0) _ rfl hZ.out Tryz.underlying203 rfl (by kernel_rfl)) rfl ⟨by rw [hR.out], hB3.out⟩
        ·
         have he : y.data.toList = [] := List.eq_nil_of_length_eq_zero (by rw [← Lib.size_eq]; omega)
         obtain ⟨A, rfl⟩ : ∃ A, A = y := ⟨_, rfl⟩
         have hA : Hid (A = bs (Wl.dropWhile (· == 48))) := Lib.hid (by rw [← hy, he, ← bs_of A, he]; rfl)
         have hA0 : Hid (A.toList = []) := Lib.hid (by rw [Lib.toList_data]; exact he)
         have hS := Lib.hid hSr.out
         clear he hy
         go_wp2
         clear hSr c1 f1
         go_loopw [] (fun wr => ∃ y : ByteArray, trimR (· == 48) y.data.toList = trimR (· == 48) Pl ∧ y.size ≤ 4611686018427387904 ∧ Hid (OfS w w1.heap.size sg A y wr)) (fun wr => sizeAt wr w1.heap.size 2)
         case atStart => exact ⟨bs Pl, by rw [bs_toList], hPl.out, hS⟩
         case round =>
          obtain ⟨y, hy, hyl, hSr⟩ := hrel
          obtain ⟨c1, f1⟩ := hSr.out.c2
          by_cases h0 : 0 < y.size
          ·
           have h1 : y.size - 1 < y.size := by omega
           have hla := Lib.hid (last_at y h0 h1)
           have hsub : wrap64 ((y.size : Int) - 1) = ((y.size - 1 : Nat) : Int) := by unfold wrap64; omega
           by_cases hx : y[y.size - 1] = 48
           ·
            have hx' : (y[y.size - 1].toNat : Int) = 48 := by rw [hx]; rfl
            have hSn := Lib.hid (hSr.out.set2 (y.extract 0 (y.size - 1)))
            go_wp2
            go_roundw
            case rel => exact ⟨_, by rw [← hy, hla.out, trimR_last, hx]; rfl, by rw [extract_bs, bs_size, List.length_take]; omega, hSn⟩
            case measure => rw [sizeAt2 hSn.out, sizeAt2 hSr.out, extract_bs, bs_size, List.length_take]; omega
           ·
            have hx' : ((y[y.size - 1].toNat : Int) == 48) = false := by
             rw [beq_eq_false_iff_ne]; intro e; apply hx; rw [← UInt8.toNat_inj]; show y[y.size - 1].toNat = 48; omega
            have hB : Hid (y = bs (trimR (· == 48) Pl)) := Lib.hid (by
             rw [← hy, hla.out, trimR_last, if_neg (by simpa using hx), ← hla.out, bs_of])
            have hBe : Hid (¬ (y = (⟨#[]⟩ : ByteArray))) := Lib.hid (fun e => by rw [e] at h0; exact absurd h0 (by decide))
            clear hS
            have ae := hA0.out
            obtain ⟨ae1, ae2, ae3, ae4⟩ := str_some hBe.out
            obtain ⟨sf, hsf⟩ : ∃ sf, sf = sg := ⟨_, rfl⟩
            have hR := Lib.hid (res_b hN.out hA.out hB.out hBe.out hsf)
            have hQ : Hid (OfS w w1.heap.size sf A y wr) := Lib.hid (by rw [hsf]; exact hSr.out)
            replace hsf := Lib.hid hsf
            obtain ⟨k0, k1, k2, k3, k4, k5⟩ := hQ.out.all
            obtain ⟨k6, k7⟩ := hSr.out.c0
            obtain ⟨k8, k9⟩ := hSr.out.c1
            obtain ⟨⟨z0, z1⟩, ⟨z2, z3⟩, ⟨z4, z5⟩, z6⟩ := res_chain hQ.out.two sf A y
            obtain ⟨z7, z8, z9, z10⟩ := two_cells hQ.out.two
            have hZ := Lib.hid z6
            have hB3 := Lib.hid hQ.out.low3
            clear z6
            go_wp2
            clear z0 z1 z2 z3 z4 z5 z7 z8 z9 z10 k0 k1 k2 k3 k4 k5 k6 k7 k8 k9
            refine bodyPost_ret (results_cell_row rfl _ _ w.heap.size 203 #[.int .i64 sf, .string A, .string y] (0, 0) _ rfl hZ.out Tryz.underlying203 rfl (by kernel_rfl)) rfl ⟨by rw [hR.out], hB3.out⟩
          ·
           have he : y.data.toList = [] := List.eq_nil_of_length_eq_zero (by rw [← Lib.size_eq]; omega)
           have hB : Hid (y = bs (trimR (· == 48) Pl)) := Lib.hid (by rw [← hy, he, ← bs_of y, he]; rfl)
           have hB0 : Hid (y.toList = []) := Lib.hid (by rw [Lib.toList_data]; exact he)
           clear hS he
           have ae := hA0.out
           have be := hB0.out
           obtain ⟨sf, hsf⟩ : ∃ sf : Int, sf = 0 := ⟨_, rfl⟩
           have hR := Lib.hid (res_c hN.out hA.out hB.out ae be hsf)
           have hQ : Hid (OfS w w1.heap.size sf A y (wr.setCell ⟨w1.heap.size, 0, none⟩ (.int .i64 0))) := Lib.hid (by rw [hsf]; exact hSr.out.set0 0)
           replace hsf := Lib.hid hsf
           obtain ⟨k0, k1, k2, k3, k4, k5⟩ := hQ.out.all
           obtain ⟨k6, k7⟩ := hSr.out.c0
           obtain ⟨k8, k9⟩ := hSr.out.c1
           obtain ⟨⟨z0, z1⟩, ⟨z2, z3⟩, ⟨z4, z5⟩, z6⟩ := res_chain hQ.out.two sf A y
           obtain ⟨z7, z8, z9, z10⟩ := two_cells hQ.out.two
           have hZ := Lib.hid z6
           have hB3 := Lib.hid hQ.out.low3
           clear z6
           go_wp2
           clear z0 z1 z2 z3 z4 z5 z7 z8 z9 z10 k0 k1 k2 k3 k4 k5 k6 k7 k8 k9
           refine bodyPost_ret (results_cell_row rfl _ _ w.heap.size 203 #[.int .i64 sf, .string A, .string y] (0, 0) _ rfl hZ.out Tryz.underlying203 rfl (by kernel_rfl)) rfl ⟨by rw [hR.out], hB3.out⟩
     ·
      obtain ⟨Pl, hPl0⟩ : ∃ Pl : List UInt8, Pl = [] := ⟨_, rfl⟩
      replace hPl0 := Lib.hid hPl0
      have hS : Hid (OfS w w1.heap.size sg (bs Wl) (bs Pl) (w2.setCell ⟨w1.heap.size, 1, none⟩ (.string (bs Wl)))) := by rw [hPl0.out]; exact hS3
      have hN : Hid (OfN s.data.toList sg Wl Pl) := Lib.hid (ofN hM.out hWg.out (by
       rw [hPl0.out]; exact part_end (hdd.out.trans (List.drop_eq_nil_of_le (by omega)))))
      have hPl : Hid ((bs Pl).size ≤ 4611686018427387904) := Lib.hid (by rw [hPl0.out]; decide)
      clear hS3
      go_wp2
      clear q1 q2 hw2 hdd hWg hM
      go_loopw [] (fun wr => ∃ y : ByteArray, y.data.toList.dropWhile (· == 48) = Wl.dropWhile (· == 48) ∧ y.size ≤ 4611686018427387904 ∧ Hid (OfS w w1.heap.size sg y (bs Pl) wr)) (fun wr => sizeAt wr w1.heap.size 1)
      case atStart => exact ⟨bs Wl, by rw [bs_toList], hWs.out, hS⟩
      case round =>
       clear hS
       obtain ⟨y, hy, hyl, hSr⟩ := hrel
       obtain ⟨c1, f1⟩ := hSr.out.c1
       by_cases h0 : 0 < y.size
       ·
        have hfi := Lib.hid (first_at y h0)
        by_cases hx : y[0] = 48
        ·
         have hx' : (y[0].toNat : Int) = 48 := by rw [hx]; rfl
         have hSn := Lib.hid (hSr.out.set1 (y.extract 1 y.size))
         go_wp2
         go_roundw
         case rel => exact ⟨_, by rw [← hy, hfi.out, hx]; rfl, by rw [extract_bs, bs_size, List.length_take]; omega, hSn⟩
         case measure => rw [sizeAt1 hSn.out, sizeAt1 hSr.out, extract_bs, bs_size, List.length_take]; omega
        ·
         have hx' : ((y[0].toNat : Int) == 48) = false := by
          rw [beq_eq_false_iff_ne]; intro e; apply hx; rw [← UInt8.toNat_inj]; show y[0].toNat = 48; omega
         obtain ⟨A, rfl⟩ : ∃ A, A = y := ⟨_, rfl⟩
         have hA : A = bs (Wl.dropWhile (· == 48)) := by
          rw [← hy, hfi.out, List.dropWhile_cons, if_neg (by simpa using hx), ← hfi.out, bs_of]
         have hAe : ¬ (A = (⟨#[]⟩ : ByteArray)) := fun e => by rw [e] at h0; exact absurd h0 (by decide)
         have hS := Lib.hid hSr.out
         replace hA := Lib.hid hA
         replace hAe := Lib.hid hAe
         clear hfi hy
         go_wp2
         clear hx hx' hSr c1 f1
         go_loopw [] (fun wr => ∃ y : ByteArray, trimR (· == 48) y.data.toList = trimR (· == 48) Pl ∧ y.size ≤ 4611686018427387904 ∧ Hid (OfS w w1.heap.size sg A y wr)) (fun wr => sizeAt wr w1.heap.size 2)
         case atStart => exact ⟨bs Pl, by rw [bs_toList], hPl.out, hS⟩
         case round =>
          obtain ⟨y, hy, hyl, hSr⟩ := hrel
          obtain ⟨c1, f1⟩ := hSr.out.c2
          by_cases h0 : 0 < y.size
          ·
           have h1 : y.size - 1 < y.size := by omega
           have hla := Lib.hid (last_at y h0 h1)
           have hsub : wrap64 ((y.size : Int) - 1) = ((y.size - 1 : Nat) : Int) := by unfold wrap64; omega
           by_cases hx : y[y.size - 1] = 48
           ·
            have hx' : (y[y.size - 1].toNat : Int) = 48 := by rw [hx]; rfl
            have hSn := Lib.hid (hSr.out.set2 (y.extract 0 (y.size - 1)))
            go_wp2
            go_roundw
            case rel => exact ⟨_, by rw [← hy, hla.out, trimR_last, hx]; rfl, by rw [extract_bs, bs_size, List.length_take]; omega, hSn⟩
            case measure => rw [sizeAt2 hSn.out, sizeAt2 hSr.out, extract_bs, bs_size, List.length_take]; omega
           ·
            have hx' : ((y[y.size - 1].toNat : Int) == 48) = false := by
             rw [beq_eq_false_iff_ne]; intro e; apply hx; rw [← UInt8.toNat_inj]; show y[y.size - 1].toNat = 48; omega
            have hB : Hid (y = bs (trimR (· == 48) Pl)) := Lib.hid (by
             rw [← hy, hla.out, trimR_last, if_neg (by simpa using hx), ← hla.out, bs_of])
            have hBe : Hid (¬ (y = (⟨#[]⟩ : ByteArray))) := Lib.hid (fun e => by rw [e] at h0; exact absurd h0 (by decide))
            clear hS
            obtain ⟨ae1, ae2, ae3, ae4⟩ := str_some hAe.out
            obtain ⟨sf, hsf⟩ : ∃ sf, sf = sg := ⟨_, rfl⟩
            have hR := Lib.hid (res_a hN.out hA.out hB.out hAe.out hsf)
            have hQ : Hid (OfS w w1.heap.size sf A y wr) := Lib.hid (by rw [hsf]; exact hSr.out)
            replace hsf := Lib.hid hsf
            obtain ⟨k0, k1, k2, k3, k4, k5⟩ := hQ.out.all
            obtain ⟨k6, k7⟩ := hSr.out.c0
            obtain ⟨k8, k9⟩ := hSr.out.c1
            obtain ⟨⟨z0, z1⟩, ⟨z2, z3⟩, ⟨z4, z5⟩, z6⟩ := res_chain hQ.out.two sf A y
            obtain ⟨z7, z8, z9, z10⟩ := two_cells hQ.out.two
            have hZ := Lib.hid z6
            have hB3 := Lib.hid hQ.out.low3
            clear z6
            go_wp2
            clear z0 z1 z2 z3 z4 z5 z7 z8 z9 z10 k0 k1 k2 k3 k4 k5 k6 k7 k8 k9
            refine bodyPost_ret (results_cell_row rfl _ _ w.heap.size 203 #[.int .i64 sf, .string A, .string y] (0, 0) _ rfl hZ.out Tryz.underlying203 rfl (by kernel_rfl)) rfl ⟨by rw [hR.out], hB3.out⟩
          ·
           have he : y.data.toList = [] := List.eq_nil_of_length_eq_zero (by rw [← Lib.size_eq]; omega)
           have hB : Hid (y = bs (trimR (· == 48) Pl)) := Lib.hid (by rw [← hy, he, ← bs_of y, he]; rfl)
           have hB0 : Hid (y.toList = []) := Lib.hid (by rw [Lib.toList_data]; exact he)
           clear hS he
           obtain ⟨ae1, ae2, ae3, ae4⟩ := str_some hAe.out
           obtain ⟨sf, hsf⟩ : ∃ sf, sf = sg := ⟨_, rfl⟩
           have hR := Lib.hid (res_a hN.out hA.out hB.out hAe.out hsf)
           have hQ : Hid (OfS w w1.heap.size sf A y wr) := Lib.hid (by rw [hsf]; exact hSr.out)
           replace hsf := Lib.hid hsf
           obtain ⟨k0, k1, k2, k3, k4, k5⟩ := hQ.out.all
           obtain ⟨k6, k7⟩ := hSr.out.c0
           obtain ⟨k8, k9⟩ := hSr.out.c1
           obtain ⟨⟨z0, z1⟩, ⟨z2, z3⟩, ⟨z4, z5⟩, z6⟩ := res_chain hQ.out.two sf A y
           obtain ⟨z7, z8, z9, z10⟩ := two_cells hQ.out.two
           have hZ := Lib.hid z6
           have hB3 := Lib.hid hQ.out.low3
           clear z6
           go_wp2
           clear z0 z1 z2 z3 z4 z5 z7 z8 z9 z10 k0 k1 k2 k3 k4 k5 k6 k7 k8 k9
           refine bodyPost_ret (results_cell_row rfl _ _ w.heap.size 203 #[.int .i64 sf, .string A, .string y] (0, 0) _ rfl hZ.out Tryz.underlying203 rfl (by kernel_rfl)) rfl ⟨by rw [hR.out], hB3.out⟩
       ·
        have he : y.data.toList = [] := List.eq_nil_of_length_eq_zero (by rw [← Lib.size_eq]; omega)
        obtain ⟨A, rfl⟩ : ∃ A, A = y := ⟨_, rfl⟩
        have hA : Hid (A = bs (Wl.dropWhile (· == 48))) := Lib.hid (by rw [← hy, he, ← bs_of A, he]; rfl)
        have hA0 : Hid (A.toList = []) := Lib.hid (by rw [Lib.toList_data]; exact he)
        have hS := Lib.hid hSr.out
        clear he hy
        go_wp2
        clear hSr c1 f1
        go_loopw [] (fun wr => ∃ y : ByteArray, trimR (· == 48) y.data.toList = trimR (· == 48) Pl ∧ y.size ≤ 4611686018427387904 ∧ Hid (OfS w w1.heap.size sg A y wr)) (fun wr => sizeAt wr w1.heap.size 2)
        case atStart => exact ⟨bs Pl, by rw [bs_toList], hPl.out, hS⟩
        case round =>
         obtain ⟨y, hy, hyl, hSr⟩ := hrel
         obtain ⟨c1, f1⟩ := hSr.out.c2
         by_cases h0 : 0 < y.size
         ·
          have h1 : y.size - 1 < y.size := by omega
          have hla := Lib.hid (last_at y h0 h1)
          have hsub : wrap64 ((y.size : Int) - 1) = ((y.size - 1 : Nat) : Int) := by unfold wrap64; omega
          by_cases hx : y[y.size - 1] = 48
          ·
           have hx' : (y[y.size - 1].toNat : Int) = 48 := by rw [hx]; rfl
           have hSn := Lib.hid (hSr.out.set2 (y.extract 0 (y.size - 1)))
           go_wp2
           go_roundw
           case rel => exact ⟨_, by rw [← hy, hla.out, trimR_last, hx]; rfl, by rw [extract_bs, bs_size, List.length_take]; omega, hSn⟩
           case measure => rw [sizeAt2 hSn.out, sizeAt2 hSr.out, extract_bs, bs_size, List.length_take]; omega
          ·
           have hx' : ((y[y.size - 1].toNat : Int) == 48) = false := by
            rw [beq_eq_false_iff_ne]; intro e; apply hx; rw [← UInt8.toNat_inj]; show y[y.size - 1].toNat = 48; omega
           have hB : Hid (y = bs (trimR (· == 48) Pl)) := Lib.hid (by
            rw [← hy, hla.out, trimR_last, if_neg (by simpa using hx), ← hla.out, bs_of])
           have hBe : Hid (¬ (y = (⟨#[]⟩ : ByteArray))) := Lib.hid (fun e => by rw [e] at h0; exact absurd h0 (by decide))
           clear hS
           have ae := hA0.out
           obtain ⟨ae1, ae2, ae3, ae4⟩ := str_some hBe.out
           obtain ⟨sf, hsf⟩ : ∃ sf, sf = sg := ⟨_, rfl⟩
           have hR := Lib.hid (res_b hN.out hA.out hB.out hBe.out hsf)
           have hQ : Hid (OfS w w1.heap.size sf A y wr) := Lib.hid (by rw [hsf]; exact hSr.out)
           replace hsf := Lib.hid hsf
           obtain ⟨k0, k1, k2, k3, k4, k5⟩ := hQ.out.all
           obtain ⟨k6, k7⟩ := hSr.out.c0
           obtain ⟨k8, k9⟩ := hSr.out.c1
           obtain ⟨⟨z0, z1⟩, ⟨z2, z3⟩, ⟨z4, z5⟩, z6⟩ := res_chain hQ.out.two sf A y
           obtain ⟨z7, z8, z9, z10⟩ := two_cells hQ.out.two
           have hZ := Lib.hid z6
           have hB3 := Lib.hid hQ.out.low3
           clear z6
           go_wp2
           clear z0 z1 z2 z3 z4 z5 z7 z8 z9 z10 k0 k1 k2 k3 k4 k5 k6 k7 k8 k9
           refine bodyPost_ret (results_cell_row rfl _ _ w.heap.size 203 #[.int .i64 sf, .string A, .string y] (0, 0) _ rfl hZ.out Tryz.underlying203 rfl (by kernel_rfl)) rfl ⟨by rw [hR.out], hB3.out⟩
         ·
          have he : y.data.toList = [] := List.eq_nil_of_length_eq_zero (by rw [← Lib.size_eq]; omega)
          have hB : Hid (y = bs (trimR (· == 48) Pl)) := Lib.hid (by rw [← hy, he, ← bs_of y, he]; rfl)
          have hB0 : Hid (y.toList = []) := Lib.hid (by rw [Lib.toList_data]; exact he)
          clear hS he
          have ae := hA0.out
          have be := hB0.out
          obtain ⟨sf, hsf⟩ : ∃ sf : Int, sf = 0 := ⟨_, rfl⟩
          have hR := Lib.hid (res_c hN.out hA.out hB.out ae be hsf)
          have hQ : Hid (OfS w w1.heap.size sf A y (wr.setCell ⟨w1.heap.size, 0, none⟩ (.int .i64 0))) := Lib.hid (by rw [hsf]; exact hSr.out.set0 0)
          replace hsf := Lib.hid hsf
          obtain ⟨k0, k1, k2, k3, k4, k5⟩ := hQ.out.all
          obtain ⟨k6, k7⟩ := hSr.out.c0
          obtain ⟨k8, k9⟩ := hSr.out.c1
          obtain ⟨⟨z0, z1⟩, ⟨z2, z3⟩, ⟨z4, z5⟩, z6⟩ := res_chain hQ.out.two sf A y
          obtain ⟨z7, z8, z9, z10⟩ := two_cells hQ.out.two
          have hZ := Lib.hid z6
          have hB3 := Lib.hid hQ.out.low3
          clear z6
          go_wp2
          clear z0 z1 z2 z3 z4 z5 z7 z8 z9 z10 k0 k1 k2 k3 k4 k5 k6 k7 k8 k9
          refine bodyPost_ret (results_cell_row rfl _ _ w.heap.size 203 #[.int .i64 sf, .string A, .string y] (0, 0) _ rfl hZ.out Tryz.underlying203 rfl (by kernel_rfl)) rfl ⟨by rw [hR.out], hB3.out⟩
  ·
   obtain rfl : k = m := by omega
   obtain ⟨w1, rfl⟩ : ∃ w1, w1 = wr := ⟨_, rfl⟩
   have hnil : s.data.toList.drop k = [] := List.drop_eq_nil_of_le (by omega)
   have hnil2 : s.data.toList.dropWhile blankC = [] := by rw [← drop_tw, hm]; exact hnil
   obtain ⟨sg, hsg⟩ : ∃ sg : Int, sg = 1 := ⟨_, rfl⟩
   have hS1 : Hid (OfS w w1.heap.size sg ⟨#[]⟩ ⟨#[]⟩ (w1.alloc (.cells #[.int .i64 1, .string ⟨#[]⟩, .string ⟨#[]⟩] 203 (0, 0)))) := by rw [hsg]; exact Lib.hid (OfS.new htwo hbr.out 1)
   have hM : Hid ((minusOf (s.data.toList.dropWhile blankC)).2 = s.data.toList.drop k ∧ (if (minusOf (s.data.toList.dropWhile blankC)).1 = true then (-1 : Int) else 1) = sg) := Lib.hid (by
    rw [hnil2, hnil, hsg]; exact ⟨rfl, rfl⟩)
   clear hnil hnil2 hsg
   go_wp2_with fail
   obtain ⟨a1, rfl⟩ : ∃ a1, a1 = k := ⟨_, rfl⟩
   have hal : a1 ≤ s.size := by omega
   clear hlt hm hms hk
   refine (Q.toolchestref05_run.calls (s.size + 1) s (a1 : Int) _ _ (run_f s hs a1 hal)).mono ?_
   rintro e w2 ⟨rfl, hd2⟩
   have hS2 := Lib.hid (hS1.out.drawn hd2)
   have hdd := Lib.hid (drop_digits s.data.toList a1)
   have hle : ((s.data.toList.drop a1).takeWhile digitC).length ≤ s.data.toList.length - a1 := by
    rw [← List.length_drop]; exact (List.takeWhile_sublist _).length_le
   have hWz : ((s.data.toList.drop a1).takeWhile digitC).length ≤ s.size := by omega
   have hWl := Lib.hid (Eq.refl ((s.data.toList.drop a1).takeWhile digitC))
   generalize hWg : (s.data.toList.drop a1).takeWhile digitC = Wl at hdd hle hWz ⊢
   replace hWg := Lib.hid hWg
   have hw2 : wrap64 ((a1 : Int) + ((bs Wl).size : Int)) = ((a1 + Wl.length : Nat) : Int) := by rw [bs_size]; unfold wrap64; omega
   have hal2 : a1 + Wl.length ≤ s.size := by omega
   generalize a1 + Wl.length = a2 at hw2 hal2 hdd
   have hWs : Hid ((bs Wl).size ≤ 4611686018427387904) := Lib.hid (by rw [bs_size]; omega)
   have hS3 := Lib.hid (hS2.out.set1 (bs Wl))
   obtain ⟨q1, q2⟩ := hS2.out.c1
   clear hd2 hS2 hS1 hle hWl hWz
   by_cases hlt2 : a2 < s.size
   ·
    have hl2 : a2 < s.data.toList.length := by rw [hz]; exact hlt2
    by_cases h46 : s[a2] = 46
    ·
     have h46' : (s[a2].toNat : Int) = 46 := by rw [h46]; rfl
     have hN1 := Lib.hid (show (s.data.toList.drop a1).dropWhile digitC = 46 :: s.data.toList.drop (a2 + 1) by
      rw [hdd.out]; have := List.drop_eq_getElem_cons hl2; rw [this]; congr 1)
     obtain ⟨q3, q4⟩ := hS3.out.c2
     have hwa : wrap64 ((a2 : Int) + 1) = ((a2 + 1 : Nat) : Int) := by unfold wrap64; omega
     go_wp2_with fail
     rw [show (a2 : Int) + 1 = ((a2 + 1 : Nat) : Int) by omega]
     refine (Q.toolchestref05_run.calls (s.size + 1) s ((a2 + 1 : Nat) : Int) _ _ (run_f s hs (a2 + 1) hlt2)).mono ?_
     rintro e w3 ⟨rfl, hd3⟩
     have hS4 := Lib.hid (hS3.out.drawn hd3)
     have hPz : ((s.data.toList.drop (a2 + 1)).takeWhile digitC).length ≤ s.data.toList.length := by
      refine Nat.le_trans (List.takeWhile_sublist _).length_le ?_
      rw [List.length_drop]; omega
     have hN : Hid (OfN s.data.toList sg Wl ((s.data.toList.drop (a2 + 1)).takeWhile digitC)) := Lib.hid (ofN hM.out hWg.out (part_dot hN1.out))
     generalize (s.data.toList.drop (a2 + 1)).takeWhile digitC = Pl at hN hPz ⊢
     have hPl : Hid ((bs Pl).size ≤ 4611686018427387904) := Lib.hid (by rw [bs_size]; omega)
     have hS := Lib.hid (hS4.out.set2 (bs Pl))
     obtain ⟨q5, q6⟩ := hS4.out.c2
     clear hd3 hS3 hN1 hPz q1 q2 q3 q4 hwa
     go_wp2
     clear hS4 q5 q6 hw2 hdd hWg hM h46 h46' hl2
     go_loopw [] (fun wr => ∃ y : ByteArray, y.data.toList.dropWhile (· == 48) = Wl.dropWhile (· == 48) ∧ y.size ≤ 4611686018427387904 ∧ Hid (OfS w w1.heap.size sg y (bs Pl) wr)) (fun wr => sizeAt wr w1.heap.size 1)
     case atStart => exact ⟨bs Wl, by rw [bs_toList], hWs.out, hS⟩
     case round =>
      clear hS
      obtain ⟨y, hy, hyl, hSr⟩ := hrel
      obtain ⟨c1, f1⟩ := hSr.out.c1
      by_cases h0 : 0 < y.size
      ·
       have hfi := Lib.hid (first_at y h0)
       by_cases hx : y[0] = 48
       ·
        have hx' : (y[0].toNat : Int) = 48 := by rw [hx]; rfl
        have hSn := Lib.hid (hSr.out.set1 (y.extract 1 y.size))
        go_wp2
        go_roundw
        case rel => exact ⟨_, by rw [← hy, hfi.out, hx]; rfl, by rw [extract_bs, bs_size, List.length_take]; omega, hSn⟩
        case measure => rw [sizeAt1 hSn.out, sizeAt1 hSr.out, extract_bs, bs_size, List.length_take]; omega
       ·
        have hx' : ((y[0].toNat : Int) == 48) = false := by
         rw [beq_eq_false_iff_ne]; intro e; apply hx; rw [← UInt8.toNat_inj]; show y[0].toNat = 48; omega
        obtain ⟨A, rfl⟩ : ∃ A, A = y := ⟨_, rfl⟩
        have hA : A = bs (Wl.dropWhile (· == 48)) := by
         rw [← hy, hfi.out, List.dropWhile_cons, if_neg (by simpa using hx), ← hfi.out, bs_of]
        have hAe : ¬ (A = (⟨#[]⟩ : ByteArray)) := fun e => by rw [e] at h0; exact absurd h0 (by decide)
        have hS := Lib.hid hSr.out
        replace hA := Lib.hid hA
        replace hAe := Lib.hid hAe
        clear hfi hy
        go_wp2
        clear hx hx' hSr c1 f1
        go_loopw [] (fun wr => ∃ y : ByteArray, trimR (· == 48) y.data.toList = trimR (· == 48) Pl ∧ y.size ≤ 4611686018427387904 ∧ Hid (OfS w w1.heap.size sg A y wr)) (fun wr => sizeAt wr w1.heap.size 2)
        case atStart => exact ⟨bs Pl, by rw [bs_toList], hPl.out, hS⟩
        case round =>
         obtain ⟨y, hy, hyl, hSr⟩ := hrel
         obtain ⟨c1, f1⟩ := hSr.out.c2
         by_cases h0 : 0 < y.size
         ·
          have h1 : y.size - 1 < y.size := by omega
          have hla := Lib.hid (last_at y h0 h1)
          have hsub : wrap64 ((y.size : Int) - 1) = ((y.size - 1 : Nat) : Int) := by unfold wrap64; omega
          by_cases hx : y[y.size - 1] = 48
          ·
           have hx' : (y[y.size - 1].toNat : Int) = 48 := by rw [hx]; rfl
           have hSn := Lib.hid (hSr.out.set2 (y.extract 0 (y.size - 1)))
           go_wp2
           go_roundw
           case rel => exact ⟨_, by rw [← hy, hla.out, trimR_last, hx]; rfl, by rw [extract_bs, bs_size, List.length_take]; omega, hSn⟩
           case measure => rw [sizeAt2 hSn.out, sizeAt2 hSr.out, extract_bs, bs_size, List.length_take]; omega
          ·
           have hx' : ((y[y.size - 1].toNat : Int) == 48) = false := by
            rw [beq_eq_false_iff_ne]; intro e; apply hx; rw [← UInt8.toNat_inj]; show y[y.size - 1].toNat = 48; omega
           have hB : Hid (y = bs (trimR (· == 48) Pl)) := Lib.hid (by
            rw [← hy, hla.out, trimR_last, if_neg (by simpa using hx), ← hla.out, bs_of])
           have hBe : Hid (¬ (y = (⟨#[]⟩ : ByteArray))) := Lib.hid (fun e => by rw [e] at h0; exact absurd h0 (by decide))
           clear hS
           obtain ⟨ae1, ae2, ae3, ae4⟩ := str_some hAe.out
           obtain ⟨sf, hsf⟩ : ∃ sf, sf = sg := ⟨_, rfl⟩
           have hR := Lib.hid (res_a hN.out hA.out hB.out hAe.out hsf)
           have hQ : Hid (OfS w w1.heap.size sf A y wr) := Lib.hid (by rw [hsf]; exact hSr.out)
           replace hsf := Lib.hid hsf
           obtain ⟨k0, k1, k2, k3, k4, k5⟩ := hQ.out.all
           obtain ⟨k6, k7⟩ := hSr.out.c0
           obtain ⟨k8, k9⟩ := hSr.out.c1
           obtain ⟨⟨z0, z1⟩, ⟨z2, z3⟩, ⟨z4, z5⟩, z6⟩ := res_chain hQ.out.two sf A y
           obtain ⟨z7, z8, z9, z10⟩ := two_cells hQ.out.two
           have hZ := Lib.hid z6
           have hB3 := Lib.hid hQ.out.low3
           clear z6
           go_wp2
           clear z0 z1 z2 z3 z4 z5 z7 z8 z9 z10 k0 k1 k2 k3 k4 k5 k6 k7 k8 k9
           refine bodyPost_ret (results_cell_row rfl _ _ w.heap.size 203 #[.int .i64 sf, .string A, .string y] (0, 0) _ rfl hZ.out Tryz.underlying203 rfl (by kernel_rfl)) rfl ⟨by rw [hR.out], hB3.out⟩
         ·
          have he : y.data.toList = [] := List.eq_nil_of_length_eq_zero (by rw [← Lib.size_eq]; omega)
          have hB : Hid (y = bs (trimR (· == 48) Pl)) := Lib.hid (by rw [← hy, he, ← bs_of y, he]; rfl)
          have hB0 : Hid (y.toList = []) := Lib.hid (by rw [Lib.toList_data]; exact he)
          clear hS he
          obtain ⟨ae1, ae2, ae3, ae4⟩ := str_some hAe.out
          obtain ⟨sf, hsf⟩ : ∃ sf, sf = sg := ⟨_, rfl⟩
          have hR := Lib.hid (res_a hN.out hA.out hB.out hAe.out hsf)
          have hQ : Hid (OfS w w1.heap.size sf A y wr) := Lib.hid (by rw [hsf]; exact hSr.out)
          replace hsf := Lib.hid hsf
          obtain ⟨k0, k1, k2, k3, k4, k5⟩ := hQ.out.all
          obtain ⟨k6, k7⟩ := hSr.out.c0
          obtain ⟨k8, k9⟩ := hSr.out.c1
          obtain ⟨⟨z0, z1⟩, ⟨z2, z3⟩, ⟨z4, z5⟩, z6⟩ := res_chain hQ.out.two sf A y
          obtain ⟨z7, z8, z9, z10⟩ := two_cells hQ.out.two
          have hZ := Lib.hid z6
          have hB3 := Lib.hid hQ.out.low3
          clear z6
          go_wp2
          clear z0 z1 z2 z3 z4 z5 z7 z8 z9 z10 k0 k1 k2 k3 k4 k5 k6 k7 k8 k9
          refine bodyPost_ret (results_cell_row rfl _ _ w.heap.size 203 #[.int .i64 sf, .string A, .string y] (0, 0) _ rfl hZ.out Tryz.underlying203 rfl (by kernel_rfl)) rfl ⟨by rw [hR.out], hB3.out⟩
      ·
       have he : y.data.toList = [] := List.eq_nil_of_length_eq_zero (by rw [← Lib.size_eq]; omega)
       obtain ⟨A, rfl⟩ : ∃ A, A = y := ⟨_, rfl⟩
       have hA : Hid (A = bs (Wl.dropWhile (· == 48))) := Lib.hid (by rw [← hy, he, ← bs_of A, he]; rfl)
       have hA0 : Hid (A.toList = []) := Lib.hid (by rw [Lib.toList_data]; exact he)
       have hS := Lib.hid hSr.out
       clear he hy
       go_wp2
       clear hSr c1 f1
       go_loopw [] (fun wr => ∃ y : ByteArray, trimR (· == 48) y.data.toList = trimR (· == 48) Pl ∧ y.size ≤ 4611686018427387904 ∧ Hid (OfS w w1.heap.size sg A y wr)) (fun wr => sizeAt wr w1.heap.size 2)
       case atStart => exact ⟨bs Pl, by rw [bs_toList], hPl.out, hS⟩
       case round =>
        obtain ⟨y, hy, hyl, hSr⟩ := hrel
        obtain ⟨c1, f1⟩ := hSr.out.c2
        by_cases h0 : 0 < y.size
        ·
         have h1 : y.size - 1 < y.size := by omega
         have hla := Lib.hid (last_at y h0 h1)
         have hsub : wrap64 ((y.size : Int) - 1) = ((y.size - 1 : Nat) : Int) := by unfold wrap64; omega
         by_cases hx : y[y.size - 1] = 48
         ·
          have hx' : (y[y.size - 1].toNat : Int) = 48 := by rw [hx]; rfl
          have hSn := Lib.hid (hSr.out.set2 (y.extract 0 (y.size - 1)))
          go_wp2
          go_roundw
          case rel => exact ⟨_, by rw [← hy, hla.out, trimR_last, hx]; rfl, by rw [extract_bs, bs_size, List.length_take]; omega, hSn⟩
          case measure => rw [sizeAt2 hSn.out, sizeAt2 hSr.out, extract_bs, bs_size, List.length_take]; omega
         ·
          have hx' : ((y[y.size - 1].toNat : Int) == 48) = false := by
           rw [beq_eq_false_iff_ne]; intro e; apply hx; rw [← UInt8.toNat_inj]; show y[y.size - 1].toNat = 48; omega
          have hB : Hid (y = bs (trimR (· == 48) Pl)) := Lib.hid (by
           rw [← hy, hla.out, trimR_last, if_neg (by simpa using hx), ← hla.out, bs_of])
          have hBe : Hid (¬ (y = (⟨#[]⟩ : ByteArray))) := Lib.hid (fun e => by rw [e] at h0; exact absurd h0 (by decide))
          clear hS
          have ae := hA0.out
          obtain ⟨ae1, ae2, ae3, ae4⟩ := str_some hBe.out
          obtain ⟨sf, hsf⟩ : ∃ sf, sf = sg := ⟨_, rfl⟩
          have hR := Lib.hid (res_b hN.out hA.out hB.out hBe.out hsf)
          have hQ : Hid (OfS w w1.heap.size sf A y wr) := Lib.hid (by rw [hsf]; exact hSr.out)
          replace hsf := Lib.hid hsf
          obtain ⟨k0, k1, k2, k3, k4, k5⟩ := hQ.out.all
          obtain ⟨k6, k7⟩ := hSr.out.c0
          obtain ⟨k8, k9⟩ := hSr.out.c1
          obtain ⟨⟨z0, z1⟩, ⟨z2, z3⟩, ⟨z4, z5⟩, z6⟩ := res_chain hQ.out.two sf A y
          obtain ⟨z7, z8, z9, z10⟩ := two_cells hQ.out.two
          have hZ := Lib.hid z6
          have hB3 := Lib.hid hQ.out.low3
          clear z6
          go_wp2
          clear z0 z1 z2 z3 z4 z5 z7 z8 z9 z10 k0 k1 k2 k3 k4 k5 k6 k7 k8 k9
          refine bodyPost_ret (results_cell_row rfl _ _ w.heap.size 203 #[.int .i64 sf, .string A, .string y] (0, 0) _ rfl hZ.out Tryz.underlying203 rfl (by kernel_rfl)) rfl ⟨by rw [hR.out], hB3.out⟩
        ·
         have he : y.data.toList = [] := List.eq_nil_of_length_eq_zero (by rw [← Lib.size_eq]; omega)
         have hB : Hid (y = bs (trimR (· == 48) Pl)) := Lib.hid (by rw [← hy, he, ← bs_of y, he]; rfl)
         have hB0 : Hid (y.toList = []) := Lib.hid (by rw [Lib.toList_data]; exact he)
         clear hS he
         have ae := hA0.out
         have be := hB0.out
         obtain ⟨sf, hsf⟩ : ∃ sf : Int, sf = 0 := ⟨_, rfl⟩
         have hR := Lib.hid (res_c hN.out hA.out hB.out ae be hsf)
         have hQ : Hid (OfS w w1.heap.size sf A y (wr.setCell ⟨w1.heap.size, 0, none⟩ (.int .i64 0))) := Lib.hid (by rw [hsf]; exact hSr.out.set0 0)
         replace hsf := Lib.hid hsf
         obtain ⟨k0, k1, k2, k3, k4, k5⟩ := hQ.out.all
         obtain ⟨k6, k7⟩ := hSr.out.c0
         obtain ⟨k8, k9⟩ := hSr.out.c1
         obtain ⟨⟨z0, z1⟩, ⟨z2, z3⟩, ⟨z4, z5⟩, z6⟩ := res_chain hQ.out.two sf A y
         obtain ⟨z7, z8, z9, z10⟩ := two_cells hQ.out.two
         have hZ := Lib.hid z6
         have hB3 := Lib.hid hQ.out.low3
         clear z6
         go_wp2
         clear z0 z1 z2 z3 z4 z5 z7 z8 z9 z10 k0 k1 k2 k3 k4 k5 k6 k7 k8 k9
         refine bodyPost_ret (results_cell_row rfl _ _ w.heap.size 203 #[.int .i64 sf, .string A, .string y] (0, 0) _ rfl hZ.out Tryz.underlying203 rfl (by kernel_rfl)) rfl ⟨by rw [hR.out], hB3.out⟩
    ·
     have h46' : ((s[a2].toNat : Int) == 46) = false := ne_beq 46 rfl h46
     obtain ⟨Pl, hPl0⟩ : ∃ Pl : List UInt8, Pl = [] := ⟨_, rfl⟩
     replace hPl0 := Lib.hid hPl0
     have hS : Hid (OfS w w1.heap.size sg (bs Wl) (bs Pl) (w2.setCell ⟨w1.heap.size, 1, none⟩ (.string (bs Wl)))) := by rw [hPl0.out]; exact hS3
     have hN : Hid (OfN s.data.toList sg Wl Pl) := Lib.hid (ofN hM.out hWg.out (by
      rw [hPl0.out]; exact part_other (hdd.out.trans (List.drop_eq_getElem_cons hl2)) h46))
     have hPl : Hid ((bs Pl).size ≤ 4611686018427387904) := Lib.hid (by rw [hPl0.out]; decide)
     clear hS3
     go_wp2
     clear q1 q2 hw2 hdd hWg hM h46 h46' hl2
     go_loopw [] (fun wr => ∃ y : ByteArray, y.data.toList.dropWhile (· == 48) = Wl.dropWhile (· == 48) ∧ y.size ≤ 4611686018427387904 ∧ Hid (OfS w w1.heap.size sg y (bs Pl) wr)) (fun wr => sizeAt wr w1.heap.size 1)
     case atStart => exact ⟨bs Wl, by rw [bs_toList], hWs.out, hS⟩
     case round =>
      clear hS
      obtain ⟨y, hy, hyl, hSr⟩ := hrel
      obtain ⟨c1, f1⟩ := hSr.out.c1
      by_cases h0 : 0 < y.size
      ·
       have hfi := Lib.hid (first_at y h0)
       by_cases hx : y[0] = 48
       ·
        have hx' : (y[0].toNat : Int) = 48 := by rw [hx]; rfl
        have hSn := Lib.hid (hSr.out.set1 (y.extract 1 y.size))
        go_wp2
        go_roundw
        case rel => exact ⟨_, by rw [← hy, hfi.out, hx]; rfl, by rw [extract_bs, bs_size, List.length_take]; omega, hSn⟩
        case measure => rw [sizeAt1 hSn.out, sizeAt1 hSr.out, extract_bs, bs_size, List.length_take]; omega
       ·
        have hx' : ((y[0].toNat : Int) == 48) = false := by
         rw [beq_eq_false_iff_ne]; intro e; apply hx; rw [← UInt8.toNat_inj]; show y[0].toNat = 48; omega
        obtain ⟨A, rfl⟩ : ∃ A, A = y := ⟨_, rfl⟩
        have hA : A = bs (Wl.dropWhile (· == 48)) := by
         rw [← hy, hfi.out, List.dropWhile_cons, if_neg (by simpa using hx), ← hfi.out, bs_of]
        have hAe : ¬ (A = (⟨#[]⟩ : ByteArray)) := fun e => by rw [e] at h0; exact absurd h0 (by decide)
        have hS := Lib.hid hSr.out
        replace hA := Lib.hid hA
        replace hAe := Lib.hid hAe
        clear hfi hy
        go_wp2
        clear hx hx' hSr c1 f1
        go_loopw [] (fun wr => ∃ y : ByteArray, trimR (· == 48) y.data.toList = trimR (· == 48) Pl ∧ y.size ≤ 4611686018427387904 ∧ Hid (OfS w w1.heap.size sg A y wr)) (fun wr => sizeAt wr w1.heap.size 2)
        case atStart => exact ⟨bs Pl, by rw [bs_toList], hPl.out, hS⟩
        case round =>
         obtain ⟨y, hy, hyl, hSr⟩ := hrel
         obtain ⟨c1, f1⟩ := hSr.out.c2
         by_cases h0 : 0 < y.size
         ·
          have h1 : y.size - 1 < y.size := by omega
          have hla := Lib.hid (last_at y h0 h1)
          have hsub : wrap64 ((y.size : Int) - 1) = ((y.size - 1 : Nat) : Int) := by unfold wrap64; omega
          by_cases hx : y[y.size - 1] = 48
          ·
           have hx' : (y[y.size - 1].toNat : Int) = 48 := by rw [hx]; rfl
           have hSn := Lib.hid (hSr.out.set2 (y.extract 0 (y.size - 1)))
           go_wp2
           go_roundw
           case rel => exact ⟨_, by rw [← hy, hla.out, trimR_last, hx]; rfl, by rw [extract_bs, bs_size, List.length_take]; omega, hSn⟩
           case measure => rw [sizeAt2 hSn.out, sizeAt2 hSr.out, extract_bs, bs_size, List.length_take]; omega
          ·
           have hx' : ((y[y.size - 1].toNat : Int) == 48) = false := by
            rw [beq_eq_false_iff_ne]; intro e; apply hx; rw [← UInt8.toNat_inj]; show y[y.size - 1].toNat = 48; omega
           have hB : Hid (y = bs (trimR (· == 48) Pl)) := Lib.hid (by
            rw [← hy, hla.out, trimR_last, if_neg (by simpa using hx), ← hla.out, bs_of])
           have hBe : Hid (¬ (y = (⟨#[]⟩ : ByteArray))) := Lib.hid (fun e => by rw [e] at h0; exact absurd h0 (by decide))
           clear hS
           obtain ⟨ae1, ae2, ae3, ae4⟩ := str_some hAe.out
           obtain ⟨sf, hsf⟩ : ∃ sf, sf = sg := ⟨_, rfl⟩
           have hR := Lib.hid (res_a hN.out hA.out hB.out hAe.out hsf)
           have hQ : Hid (OfS w w1.heap.size sf A y wr) := Lib.hid (by rw [hsf]; exact hSr.out)
           replace hsf := Lib.hid hsf
           obtain ⟨k0, k1, k2, k3, k4, k5⟩ := hQ.out.all
           obtain ⟨k6, k7⟩ := hSr.out.c0
           obtain ⟨k8, k9⟩ := hSr.out.c1
           obtain ⟨⟨z0, z1⟩, ⟨z2, z3⟩, ⟨z4, z5⟩, z6⟩ := res_chain hQ.out.two sf A y
           obtain ⟨z7, z8, z9, z10⟩ := two_cells hQ.out.two
           have hZ := Lib.hid z6
           have hB3 := Lib.hid hQ.out.low3
           clear z6
           go_wp2
           clear z0 z1 z2 z3 z4 z5 z7 z8 z9 z10 k0 k1 k2 k3 k4 k5 k6 k7 k8 k9
           refine bodyPost_ret (results_cell_row rfl _ _ w.heap.size 203 #[.int .i64 sf, .string A, .string y] (0, 0) _ rfl hZ.out Tryz.underlying203 rfl (by kernel_rfl)) rfl ⟨by rw [hR.out], hB3.out⟩
         ·
          have he : y.data.toList = [] := List.eq_nil_of_length_eq_zero (by rw [← Lib.size_eq]; omega)
          have hB : Hid (y = bs (trimR (· == 48) Pl)) := Lib.hid (by rw [← hy, he, ← bs_of y, he]; rfl)
          have hB0 : Hid (y.toList = []) := Lib.hid (by rw [Lib.toList_data]; exact he)
          clear hS he
          obtain ⟨ae1, ae2, ae3, ae4⟩ := str_some hAe.out
          obtain ⟨sf, hsf⟩ : ∃ sf, sf = sg := ⟨_, rfl⟩
          have hR := Lib.hid (res_a hN.out hA.out hB.out hAe.out hsf)
          have hQ : Hid (OfS w w1.heap.size sf A y wr) := Lib.hid (by rw [hsf]; exact hSr.out)
          replace hsf := Lib.hid hsf
          obtain ⟨k0, k1, k2, k3, k4, k5⟩ := hQ.out.all
          obtain ⟨k6, k7⟩ := hSr.out.c0
          obtain ⟨k8, k9⟩ := hSr.out.c1
          obtain ⟨⟨z0, z1⟩, ⟨z2, z3⟩, ⟨z4, z5⟩, z6⟩ := res_chain hQ.out.two sf A y
          obtain ⟨z7, z8, z9, z10⟩ := two_cells hQ.out.two
          have hZ := Lib.hid z6
          have hB3 := Lib.hid hQ.out.low3
          clear z6
          go_wp2
          clear z0 z1 z2 z3 z4 z5 z7 z8 z9 z10 k0 k1 k2 k3 k4 k5 k6 k7 k8 k9
          refine bodyPost_ret (results_cell_row rfl _ _ w.heap.size 203 #[.int .i64 sf, .string A, .string y] (0, 0) _ rfl hZ.out Tryz.underlying203 rfl (by kernel_rfl)) rfl ⟨by rw [hR.out], hB3.out⟩
      ·
       have he : y.data.toList = [] := List.eq_nil_of_length_eq_zero (by rw [← Lib.size_eq]; omega)
       obtain ⟨A, rfl⟩ : ∃ A, A = y := ⟨_, rfl⟩
       have hA : Hid (A = bs (Wl.dropWhile (· == 48))) := Lib.hid (by rw [← hy, he, ← bs_of A, he]; rfl)
       have hA0 : Hid (A.toList = []) := Lib.hid (by rw [Lib.toList_data]; exact he)
       have hS := Lib.hid hSr.out
       clear he hy
       go_wp2
       clear hSr c1 f1
       go_loopw [] (fun wr => ∃ y : ByteArray, trimR (· == 48) y.data.toList = trimR (· == 48) Pl ∧ y.size ≤ 4611686018427387904 ∧ Hid (OfS w w1.heap.size sg A y wr)) (fun wr => sizeAt wr w1.heap.size 2)
       case atStart => exact ⟨bs Pl, by rw [bs_toList], hPl.out, hS⟩
       case round =>
        obtain ⟨y, hy, hyl, hSr⟩ := hrel
        obtain ⟨c1, f1⟩ := hSr.out.c2
        by_cases h0 : 0 < y.size
        ·
         have h1 : y.size - 1 < y.size := by omega
         have hla := Lib.hid (last_at y h0 h1)
         have hsub : wrap64 ((y.size : Int) - 1) = ((y.size - 1 : Nat) : Int) := by unfold wrap64; omega
         by_cases hx : y[y.size - 1] = 48
         ·
          have hx' : (y[y.size - 1].toNat : Int) = 48 := by rw [hx]; rfl
          have hSn := Lib.hid (hSr.out.set2 (y.extract 0 (y.size - 1)))
          go_wp2
          go_roundw
          case rel => exact ⟨_, by rw [← hy, hla.out, trimR_last, hx]; rfl, by rw [extract_bs, bs_size, List.length_take]; omega, hSn⟩
          case measure => rw [sizeAt2 hSn.out, sizeAt2 hSr.out, extract_bs, bs_size, List.length_take]; omega
         ·
          have hx' : ((y[y.size - 1].toNat : Int) == 48) = false := by
           rw [beq_eq_false_iff_ne]; intro e; apply hx; rw [← UInt8.toNat_inj]; show y[y.size - 1].toNat = 48; omega
          have hB : Hid (y = bs (trimR (· == 48) Pl)) := Lib.hid (by
           rw [← hy, hla.out, trimR_last, if_neg (by simpa using hx), ← hla.out, bs_of])
          have hBe : Hid (¬ (y = (⟨#[]⟩ : ByteArray))) := Lib.hid (fun e => by rw [e] at h0; exact absurd h0 (by decide))
          clear hS
          have ae := hA0.out
          obtain ⟨ae1, ae2, ae3, ae4⟩ := str_some hBe.out
          obtain ⟨sf, hsf⟩ : ∃ sf, sf = sg := ⟨_, rfl⟩
          have hR := Lib.hid (res_b hN.out hA.out hB.out hBe.out hsf)
          have hQ : Hid (OfS w w1.heap.size sf A y wr) := Lib.hid (by rw [hsf]; exact hSr.out)
          replace hsf := Lib.hid hsf
          obtain ⟨k0, k1, k2, k3, k4, k5⟩ := hQ.out.all
          obtain ⟨k6, k7⟩ := hSr.out.c0
          obtain ⟨k8, k9⟩ := hSr.out.c1
          obtain ⟨⟨z0, z1⟩, ⟨z2, z3⟩, ⟨z4, z5⟩, z6⟩ := res_chain hQ.out.two sf A y
          obtain ⟨z7, z8, z9, z10⟩ := two_cells hQ.out.two
          have hZ := Lib.hid z6
          have hB3 := Lib.hid hQ.out.low3
          clear z6
          go_wp2
          clear z0 z1 z2 z3 z4 z5 z7 z8 z9 z10 k0 k1 k2 k3 k4 k5 k6 k7 k8 k9
          refine bodyPost_ret (results_cell_row rfl _ _ w.heap.size 203 #[.int .i64 sf, .string A, .string y] (0, 0) _ rfl hZ.out Tryz.underlying203 rfl (by kernel_rfl)) rfl ⟨by rw [hR.out], hB3.out⟩
        ·
         have he : y.data.toList = [] := List.eq_nil_of_length_eq_zero (by rw [← Lib.size_eq]; omega)
         have hB : Hid (y = bs (trimR (· == 48) Pl)) := Lib.hid (by rw [← hy, he, ← bs_of y, he]; rfl)
         have hB0 : Hid (y.toList = []) := Lib.hid (by rw [Lib.toList_data]; exact he)
         clear hS he
         have ae := hA0.out
         have be := hB0.out
         obtain ⟨sf, hsf⟩ : ∃ sf : Int, sf = 0 := ⟨_, rfl⟩
         have hR := Lib.hid (res_c hN.out hA.out hB.out ae be hsf)
         have hQ : Hid (OfS w w1.heap.size sf A y (wr.setCell ⟨w1.heap.size, 0, none⟩ (.int .i64 0))) := Lib.hid (by rw [hsf]; exact hSr.out.set0 0)
         replace hsf := Lib.hid hsf
         obtain ⟨k0, k1, k2, k3, k4, k5⟩ := hQ.out.all
         obtain ⟨k6, k7⟩ := hSr.out.c0
         obtain ⟨k8, k9⟩ := hSr.out.c1
         obtain ⟨⟨z0, z1⟩, ⟨z2, z3⟩, ⟨z4, z5⟩, z6⟩ := res_chain hQ.out.two sf A y
         obtain ⟨z7, z8, z9, z10⟩ := two_cells hQ.out.two
         have hZ := Lib.hid z6
         have hB3 := Lib.hid hQ.out.low3
         clear z6
         go_wp2
         clear z0 z1 z2 z3 z4 z5 z7 z8 z9 z10 k0 k1 k2 k3 k4 k5 k6 k7 k8 k9
         refine bodyPost_ret (results_cell_row rfl _ _ w.heap.size 203 #[.int .i64 sf, .string A, .string y] (0, 0) _ rfl hZ.out Tryz.underlying203 rfl (by kernel_rfl)) rfl ⟨by rw [hR.out], hB3.out⟩
   ·
    obtain ⟨Pl, hPl0⟩ : ∃ Pl : List UInt8, Pl = [] := ⟨_, rfl⟩
    replace hPl0 := Lib.hid hPl0
    have hS : Hid (OfS w w1.heap.size sg (bs Wl) (bs Pl) (w2.setCell ⟨w1.heap.size, 1, none⟩ (.string (bs Wl)))) := by rw [hPl0.out]; exact hS3
    have hN : Hid (OfN s.data.toList sg Wl Pl) := Lib.hid (ofN hM.out hWg.out (by
     rw [hPl0.out]; exact part_end (hdd.out.trans (List.drop_eq_nil_of_le (by omega)))))
    have hPl : Hid ((bs Pl).size ≤ 4611686018427387904) := Lib.hid (by rw [hPl0.out]; decide)
    clear hS3
    go_wp2
    clear q1 q2 hw2 hdd hWg hM
    go_loopw [] (fun wr => ∃ y : ByteArray, y.data.toList.dropWhile (· == 48) = Wl.dropWhile (· == 48) ∧ y.size ≤ 4611686018427387904 ∧ Hid (OfS w w1.heap.size sg y (bs Pl) wr)) (fun wr => sizeAt wr w1.heap.size 1)
    case atStart => exact ⟨bs Wl, by rw [bs_toList], hWs.out, hS⟩
    case round =>
     clear hS
     obtain ⟨y, hy, hyl, hSr⟩ := hrel
     obtain ⟨c1, f1⟩ := hSr.out.c1
     by_cases h0 : 0 < y.size
     ·
      have hfi := Lib.hid (first_at y h0)
      by_cases hx : y[0] = 48
      ·
       have hx' : (y[0].toNat : Int) = 48 := by rw [hx]; rfl
       have hSn := Lib.hid (hSr.out.set1 (y.extract 1 y.size))
       go_wp2
       go_roundw
       case rel => exact ⟨_, by rw [← hy, hfi.out, hx]; rfl, by rw [extract_bs, bs_size, List.length_take]; omega, hSn⟩
       case measure => rw [sizeAt1 hSn.out, sizeAt1 hSr.out, extract_bs, bs_size, List.length_take]; omega
      ·
       have hx' : ((y[0].toNat : Int) == 48) = false := by
        rw [beq_eq_false_iff_ne]; intro e; apply hx; rw [← UInt8.toNat_inj]; show y[0].toNat = 48; omega
       obtain ⟨A, rfl⟩ : ∃ A, A = y := ⟨_, rfl⟩
       have hA : A = bs (Wl.dropWhile (· == 48)) := by
        rw [← hy, hfi.out, List.dropWhile_cons, if_neg (by simpa using hx), ← hfi.out, bs_of]
       have hAe : ¬ (A = (⟨#[]⟩ : ByteArray)) := fun e => by rw [e] at h0; exact absurd h0 (by decide)
       have hS := Lib.hid hSr.out
       replace hA := Lib.hid hA
       replace hAe := Lib.hid hAe
       clear hfi hy
       go_wp2
       clear hx hx' hSr c1 f1
       go_loopw [] (fun wr => ∃ y : ByteArray, trimR (· == 48) y.data.toList = trimR (· == 48) Pl ∧ y.size ≤ 4611686018427387904 ∧ Hid (OfS w w1.heap.size sg A y wr)) (fun wr => sizeAt wr w1.heap.size 2)
       case atStart => exact ⟨bs Pl, by rw [bs_toList], hPl.out, hS⟩
       case round =>
        obtain ⟨y, hy, hyl, hSr⟩ := hrel
        obtain ⟨c1, f1⟩ := hSr.out.c2
        by_cases h0 : 0 < y.size
        ·
         have h1 : y.size - 1 < y.size := by omega
         have hla := Lib.hid (last_at y h0 h1)
         have hsub : wrap64 ((y.size : Int) - 1) = ((y.size - 1 : Nat) : Int) := by unfold wrap64; omega
         by_cases hx : y[y.size - 1] = 48
         ·
          have hx' : (y[y.size - 1].toNat : Int) = 48 := by rw [hx]; rfl
          have hSn := Lib.hid (hSr.out.set2 (y.extract 0 (y.size - 1)))
          go_wp2
          go_roundw
          case rel => exact ⟨_, by rw [← hy, hla.out, trimR_last, hx]; rfl, by rw [extract_bs, bs_size, List.length_take]; omega, hSn⟩
          case measure => rw [sizeAt2 hSn.out, sizeAt2 hSr.out, extract_bs, bs_size, List.length_take]; omega
         ·
          have hx' : ((y[y.size - 1].toNat : Int) == 48) = false := by
           rw [beq_eq_false_iff_ne]; intro e; apply hx; rw [← UInt8.toNat_inj]; show y[y.size - 1].toNat = 48; omega
          have hB : Hid (y = bs (trimR (· == 48) Pl)) := Lib.hid (by
           rw [← hy, hla.out, trimR_last, if_neg (by simpa using hx), ← hla.out, bs_of])
          have hBe : Hid (¬ (y = (⟨#[]⟩ : ByteArray))) := Lib.hid (fun e => by rw [e] at h0; exact absurd h0 (by decide))
          clear hS
          obtain ⟨ae1, ae2, ae3, ae4⟩ := str_some hAe.out
          obtain ⟨sf, hsf⟩ : ∃ sf, sf = sg := ⟨_, rfl⟩
          have hR := Lib.hid (res_a hN.out hA.out hB.out hAe.out hsf)
          have hQ : Hid (OfS w w1.heap.size sf A y wr) := Lib.hid (by rw [hsf]; exact hSr.out)
          replace hsf := Lib.hid hsf
          obtain ⟨k0, k1, k2, k3, k4, k5⟩ := hQ.out.all
          obtain ⟨k6, k7⟩ := hSr.out.c0
          obtain ⟨k8, k9⟩ := hSr.out.c1
          obtain ⟨⟨z0, z1⟩, ⟨z2, z3⟩, ⟨z4, z5⟩, z6⟩ := res_chain hQ.out.two sf A y
          obtain ⟨z7, z8, z9, z10⟩ := two_cells hQ.out.two
          have hZ := Lib.hid z6
          have hB3 := Lib.hid hQ.out.low3
          clear z6
          go_wp2
          clear z0 z1 z2 z3 z4 z5 z7 z8 z9 z10 k0 k1 k2 k3 k4 k5 k6 k7 k8 k9
          refine bodyPost_ret (results_cell_row rfl _ _ w.heap.size 203 #[.int .i64 sf, .string A, .string y] (0, 0) _ rfl hZ.out Tryz.underlying203 rfl (by kernel_rfl)) rfl ⟨by rw [hR.out], hB3.out⟩
        ·
         have he : y.data.toList = [] := List.eq_nil_of_length_eq_zero (by rw [← Lib.size_eq]; omega)
         have hB : Hid (y = bs (trimR (· == 48) Pl)) := Lib.hid (by rw [← hy, he, ← bs_of y, he]; rfl)
         have hB0 : Hid (y.toList = []) := Lib.hid (by rw [Lib.toList_data]; exact he)
         clear hS he
         obtain ⟨ae1, ae2, ae3, ae4⟩ := str_some hAe.out
         obtain ⟨sf, hsf⟩ : ∃ sf, sf = sg := ⟨_, rfl⟩
         have hR := Lib.hid (res_a hN.out hA.out hB.out hAe.out hsf)
         have hQ : Hid (OfS w w1.heap.size sf A y wr) := Lib.hid (by rw [hsf]; exact hSr.out)
         replace hsf := Lib.hid hsf
         obtain ⟨k0, k1, k2, k3, k4, k5⟩ := hQ.out.all
         obtain ⟨k6, k7⟩ := hSr.out.c0
         obtain ⟨k8, k9⟩ := hSr.out.c1
         obtain ⟨⟨z0, z1⟩, ⟨z2, z3⟩, ⟨z4, z5⟩, z6⟩ := res_chain hQ.out.two sf A y
         obtain ⟨z7, z8, z9, z10⟩ := two_cells hQ.out.two
         have hZ := Lib.hid z6
         have hB3 := Lib.hid hQ.out.low3
         clear z6
         go_wp2
         clear z0 z1 z2 z3 z4 z5 z7 z8 z9 z10 k0 k1 k2 k3 k4 k5 k6 k7 k8 k9
         refine bodyPost_ret (results_cell_row rfl _ _ w.heap.size 203 #[.int .i64 sf, .string A, .string y] (0, 0) _ rfl hZ.out Tryz.underlying203 rfl (by kernel_rfl)) rfl ⟨by rw [hR.out], hB3.out⟩
     ·
      have he : y.data.toList = [] := List.eq_nil_of_length_eq_zero (by rw [← Lib.size_eq]; omega)
      obtain ⟨A, rfl⟩ : ∃ A, A = y := ⟨_, rfl⟩
      have hA : Hid (A = bs (Wl.dropWhile (· == 48))) := Lib.hid (by rw [← hy, he, ← bs_of A, he]; rfl)
      have hA0 : Hid (A.toList = []) := Lib.hid (by rw [Lib.toList_data]; exact he)
      have hS := Lib.hid hSr.out
      clear he hy
      go_wp2
      clear hSr c1 f1
      go_loopw [] (fun wr => ∃ y : ByteArray, trimR (· == 48) y.data.toList = trimR (· == 48) Pl ∧ y.size ≤ 4611686018427387904 ∧ Hid (OfS w w1.heap.size sg A y wr)) (fun wr => sizeAt wr w1.heap.size 2)
      case atStart => exact ⟨bs Pl, by rw [bs_toList], hPl.out, hS⟩
      case round =>
       obtain ⟨y, hy, hyl, hSr⟩ := hrel
       obtain ⟨c1, f1⟩ := hSr.out.c2
       by_cases h0 : 0 < y.size
       ·
        have h1 : y.size - 1 < y.size := by omega
        have hla := Lib.hid (last_at y h0 h1)
        have hsub : wrap64 ((y.size : Int) - 1) = ((y.size - 1 : Nat) : Int) := by unfold wrap64; omega
        by_cases hx : y[y.size - 1] = 48
        ·
         have hx' : (y[y.size - 1].toNat : Int) = 48 := by rw [hx]; rfl
         have hSn := Lib.hid (hSr.out.set2 (y.extract 0 (y.size - 1)))
         go_wp2
         go_roundw
         case rel => exact ⟨_, by rw [← hy, hla.out, trimR_last, hx]; rfl, by rw [extract_bs, bs_size, List.length_take]; omega, hSn⟩
         case measure => rw [sizeAt2 hSn.out, sizeAt2 hSr.out, extract_bs, bs_size, List.length_take]; omega
        ·
         have hx' : ((y[y.size - 1].toNat : Int) == 48) = false := by
          rw [beq_eq_false_iff_ne]; intro e; apply hx; rw [← UInt8.toNat_inj]; show y[y.size - 1].toNat = 48; omega
         have hB : Hid (y = bs (trimR (· == 48) Pl)) := Lib.hid (by
          rw [← hy, hla.out, trimR_last, if_neg (by simpa using hx), ← hla.out, bs_of])
         have hBe : Hid (¬ (y = (⟨#[]⟩ : ByteArray))) := Lib.hid (fun e => by rw [e] at h0; exact absurd h0 (by decide))
         clear hS
         have ae := hA0.out
         obtain ⟨ae1, ae2, ae3, ae4⟩ := str_some hBe.out
         obtain ⟨sf, hsf⟩ : ∃ sf, sf = sg := ⟨_, rfl⟩
         have hR := Lib.hid (res_b hN.out hA.out hB.out hBe.out hsf)
         have hQ : Hid (OfS w w1.heap.size sf A y wr) := Lib.hid (by rw [hsf]; exact hSr.out)
         replace hsf := Lib.hid hsf
         obtain ⟨k0, k1, k2, k3, k4, k5⟩ := hQ.out.all
         obtain ⟨k6, k7⟩ := hSr.out.c0
         obtain ⟨k8, k9⟩ := hSr.out.c1
         obtain ⟨⟨z0, z1⟩, ⟨z2, z3⟩, ⟨z4, z5⟩, z6⟩ := res_chain hQ.out.two sf A y
         obtain ⟨z7, z8, z9, z10⟩ := two_cells hQ.out.two
         have hZ := Lib.hid z6
         have hB3 := Lib.hid hQ.out.low3
         clear z6
         go_wp2
         clear z0 z1 z2 z3 z4 z5 z7 z8 z9 z10 k0 k1 k2 k3 k4 k5 k6 k7 k8 k9
         refine bodyPost_ret (results_cell_row rfl _ _ w.heap.size 203 #[.int .i64 sf, .string A, .string y] (0, 0) _ rfl hZ.out Tryz.underlying203 rfl (by kernel_rfl)) rfl ⟨by rw [hR.out], hB3.out⟩
       ·
        have he : y.data.toList = [] := List.eq_nil_of_length_eq_zero (by rw [← Lib.size_eq]; omega)
        have hB : Hid (y = bs (trimR (· == 48) Pl)) := Lib.hid (by rw [← hy, he, ← bs_of y, he]; rfl)
        have hB0 : Hid (y.toList = []) := Lib.hid (by rw [Lib.toList_data]; exact he)
        clear hS he
        have ae := hA0.out
        have be := hB0.out
        obtain ⟨sf, hsf⟩ : ∃ sf : Int, sf = 0 := ⟨_, rfl⟩
        have hR := Lib.hid (res_c hN.out hA.out hB.out ae be hsf)
        have hQ : Hid (OfS w w1.heap.size sf A y (wr.setCell ⟨w1.heap.size, 0, none⟩ (.int .i64 0))) := Lib.hid (by rw [hsf]; exact hSr.out.set0 0)
        replace hsf := Lib.hid hsf
        obtain ⟨k0, k1, k2, k3, k4, k5⟩ := hQ.out.all
        obtain ⟨k6, k7⟩ := hSr.out.c0
        obtain ⟨k8, k9⟩ := hSr.out.c1
        obtain ⟨⟨z0, z1⟩, ⟨z2, z3⟩, ⟨z4, z5⟩, z6⟩ := res_chain hQ.out.two sf A y
        obtain ⟨z7, z8, z9, z10⟩ := two_cells hQ.out.two
        have hZ := Lib.hid z6
        have hB3 := Lib.hid hQ.out.low3
        clear z6
        go_wp2
        clear z0 z1 z2 z3 z4 z5 z7 z8 z9 z10 k0 k1 k2 k3 k4 k5 k6 k7 k8 k9
        refine bodyPost_ret (results_cell_row rfl _ _ w.heap.size 203 #[.int .i64 sf, .string A, .string y] (0, 0) _ rfl hZ.out Tryz.underlying203 rfl (by kernel_rfl)) rfl ⟨by rw [hR.out], hB3.out⟩
end Go.Proofs.YtlicjpbmlmongaaGreatDoor.K
namespace Go.Proofs.YtlicjpbmlmongaaGreatDoor.Q
open Go.RowKit Go.Proofs.YtlicjpbmlmongaaGreatDoor.H Go.Proofs.YtlicjpbmlmongaaGreatDoorW.PrintWords Go.Proofs.YtlicjpbmlmongaaGreatDoor.K
def toolchestref05_Of.f (a0 : ByteArray) : Option (Int × ByteArray × ByteArray) := if a0.size ≤ 4611686018427387 then some ((numL a0.data.toList).sign, K.bs (numL a0.data.toList).whole, K.bs (numL a0.data.toList).part) else none
theorem toolchestref05_Of.calls (a0 : ByteArray) (r1 : Int) (r2 : ByteArray) (r3 : ByteArray) (w : World) (h : toolchestref05_Of.f a0 = some (r1, r2, r3)) :
  Calls Tryz.prog 141 #[.string a0] w fun e w' => e = .returned (.agg #[.int .i64 r1, .string r2, .string r3]) ∧ Below w.heap.size w w' := by
 unfold toolchestref05_Of.f at h
 split at h
 ·
  rename_i hl
  injection h with h
  injection h with h1 h
  injection h with h2 h3
  subst h1 h2 h3
  exact of_walk a0 hl w
 ·
  cases h
end Go.Proofs.YtlicjpbmlmongaaGreatDoor.Q
