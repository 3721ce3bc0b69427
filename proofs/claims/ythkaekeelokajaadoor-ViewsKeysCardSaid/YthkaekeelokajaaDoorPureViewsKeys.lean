/- Written by merge.py out of VKeys, PureViewsKeys. -/
import Derived.Test.YthkaekeelokajaaDoorVJoin
import Derived.Test.YthkaekeelokajaaDoorPlain
import Derived.Test.YthkaekeelokajaaDoorVAlive
import Derived.Great.Walk
import Derived.Laws.IdiomStrings
import Derived.Deep.QuietTactic
import Derived.BigQuiet
import Derived.IntWalk
section
/- Lines of one field each, in order, joined with themselves: the plain part. -/
set_option linter.unusedVariables false
set_option linter.unusedSimpArgs false
namespace Go.Proofs.YthkaekeelokajaaDoor.P
open Go.RowKit Go.Proofs Go.Proofs.YthkaekeelokajaaDoor.H Go.Proofs.YthkaekeelokajaaDoor.C Go.Proofs.YthkaekeelokajaaDoor.S

theorem adv_to {E : List ByteArray} {x : ByteArray} : ∀ (d f p : Nat), f + d = p → p ≤ E.length → (∀ j (h : j < E.length), f ≤ j → j < p → ltB E[j] x = true) → (∀ h : p < E.length, ltB E[p] x = false) → adv E x f = p
  | 0, f, p, hd, hp, h1, h2 => by
    obtain rfl : f = p := by omega
    rcases Nat.lt_or_ge f E.length with h | h
    · exact adv_no h (h2 h)
    · exact adv_end h
  | d + 1, f, p, hd, hp, h1, h2 => by
    rw [adv_yes (show f < E.length by omega) (h1 f (by omega) (Nat.le_refl _) (by omega))]
    exact adv_to d (f + 1) p (by omega) hp (fun j h a b => h1 j h (by omega) b) h2
theorem same_to {E : List ByteArray} {x : ByteArray} : ∀ (d f : Nat), f + d ≤ E.length → (∀ j (h : j < E.length), f ≤ j → j < f + d → E[j] = x) → (∀ h : f + d < E.length, ¬ E[f + d] = x) → same E x f = d
  | 0, f, hp, h1, h2 => by
    rcases Nat.lt_or_ge f E.length with h | h
    · exact same_no h (h2 h)
    · exact same_end h
  | d + 1, f, hp, h1, h2 => by
    have e := same_to (E := E) (x := x) d (f + 1) (by omega) (fun j h a b => h1 j h (by omega) (by omega)) (fun h => by
      have := h2 (by omega)
      simp only [show f + (d + 1) = f + 1 + d by omega] at this
      exact this)
    rw [same_yes (show f < E.length by omega) (h1 f (by omega) (Nat.le_refl _) (by omega)), e]
/-- Blocks of lines: so many of each, the lines of one block ahead of those of the next. -/
def blocks (g : Nat → Nat) (s : Nat → ByteArray) (n : Nat) : List ByteArray := (List.range n).flatMap fun k => List.replicate (g k) (s k)
theorem blocks_succ (g : Nat → Nat) (s : Nat → ByteArray) (n : Nat) : blocks g s (n + 1) = blocks g s n ++ List.replicate (g n) (s n) := by
  unfold blocks; rw [List.range_succ, List.flatMap_append]; simp
theorem blocks_mem (g : Nat → Nat) (s : Nat → ByteArray) (n : Nat) (x : ByteArray) (h : x ∈ blocks g s n) : ∃ k, k < n ∧ x = s k := by
  unfold blocks at h
  obtain ⟨k, hk, hx⟩ := List.mem_flatMap.1 h
  exact ⟨k, List.mem_range.1 hk, (List.mem_replicate.1 hx).2⟩
theorem blocks_prefix (g : Nat → Nat) (s : Nat → ByteArray) (n m : Nat) (h : n ≤ m) : ∃ T, blocks g s m = blocks g s n ++ T ∧ ∀ x ∈ T, ∃ k, n ≤ k ∧ k < m ∧ x = s k := by
  obtain ⟨d, rfl⟩ : ∃ d, m = n + d := ⟨m - n, by omega⟩
  clear h
  induction d with
  | zero => exact ⟨[], by simp, fun x h => by cases h⟩
  | succ d ih =>
    obtain ⟨T, h1, h2⟩ := ih
    refine ⟨T ++ List.replicate (g (n + d)) (s (n + d)), ?_, fun x hx => ?_⟩
    · rw [show n + (d + 1) = n + d + 1 by omega, blocks_succ, h1, List.append_assoc]
    · rcases List.mem_append.1 hx with h | h
      · obtain ⟨k, a, b, c⟩ := h2 x h
        exact ⟨k, a, by omega, c⟩
      · exact ⟨n + d, by omega, by omega, (List.mem_replicate.1 h).2⟩
theorem blocks_get (g : Nat → Nat) (s : Nat → ByteArray) (N n j : Nat) (hn : n < N) (hj : j < g n) : (blocks g s N)[(blocks g s n).length + j]? = some (s n) := by
  obtain ⟨T, h1, _⟩ := blocks_prefix g s (n + 1) N (by omega)
  rw [h1, blocks_succ, List.append_assoc, List.getElem?_append_right (by omega), show (blocks g s n).length + j - (blocks g s n).length = j by omega, List.getElem?_append_left (by simpa using hj), List.getElem?_replicate, if_pos hj]
theorem blocks_before (g : Nat → Nat) (s : Nat → ByteArray) (N n j : Nat) (hn : n ≤ N) (hj : j < (blocks g s n).length) : ∃ k, k < n ∧ (blocks g s N)[j]? = some (s k) := by
  obtain ⟨T, h1, _⟩ := blocks_prefix g s n N hn
  rw [h1, List.getElem?_append_left hj, List.getElem?_eq_getElem hj]
  obtain ⟨k, hk, e⟩ := blocks_mem g s n _ (List.getElem_mem hj)
  exact ⟨k, hk, by rw [e]⟩
theorem blocks_behind (g : Nat → Nat) (s : Nat → ByteArray) (N n : Nat) (hn : n < N) (x : ByteArray) (h : (blocks g s N)[(blocks g s n).length + g n]? = some x) : ∃ k, n < k ∧ k < N ∧ x = s k := by
  obtain ⟨T, h1, h2⟩ := blocks_prefix g s (n + 1) N (by omega)
  rw [h1, blocks_succ, List.getElem?_append_right (by simp)] at h
  obtain ⟨k, a, b, c⟩ := h2 x (List.mem_of_getElem? h)
  exact ⟨k, by omega, b, c⟩
theorem blocks_len (g : Nat → Nat) (s : Nat → ByteArray) (N n : Nat) (hn : n < N) : (blocks g s n).length + g n ≤ (blocks g s N).length := by
  obtain ⟨T, h1, _⟩ := blocks_prefix g s (n + 1) N (by omega)
  rw [h1, blocks_succ, List.length_append, List.length_append, List.length_replicate]
  omega
/-- Lines in rising order. -/
def Rising (s : Nat → ByteArray) (N : Nat) : Prop := ∀ i j, i < j → j < N → ltB (s i) (s j) = true ∧ ltB (s j) (s i) = false ∧ s i ≠ s j
theorem ltB_self (x : ByteArray) : ltB x x = false := by
  unfold ltB
  generalize x.toList = l
  induction l with
  | nil => rfl
  | cons a l ih => unfold Op.bytesLess; simp [ih]
section
variable (g : Nat → Nat) (s : Nat → ByteArray) (N : Nat) (hs : Rising s N)
include hs
theorem froms_in (n : Nat) (hn : n < N) (H : froms (blocks g s N) (blocks g s N) (blocks g s n).length ≤ (blocks g s n).length) : ∀ j, j < g n → froms (blocks g s N) (blocks g s N) ((blocks g s n).length + j + 1) = (blocks g s n).length := by
  have hl := blocks_len g s N n hn
  have key : ∀ f j, j < g n → f ≤ (blocks g s n).length → adv (blocks g s N) ((blocks g s N).getD ((blocks g s n).length + j) ⟨#[]⟩) f = (blocks g s n).length := by
    intro f j hj hf
    have e : (blocks g s N).getD ((blocks g s n).length + j) ⟨#[]⟩ = s n := by rw [List.getD_eq_getElem?_getD, blocks_get g s N n j hn hj]; rfl
    rw [e]
    refine adv_to ((blocks g s n).length - f) f _ (by omega) (by omega) (fun i h _ b => ?_) (fun h => ?_)
    · obtain ⟨k, hk, e2⟩ := blocks_before g s N n i (by omega) b
      rw [List.getElem?_eq_getElem h] at e2
      rw [Option.some.inj e2]
      exact (hs k n hk hn).1
    · have e2 := blocks_get g s N n 0 hn (by omega)
      rw [Nat.add_zero, List.getElem?_eq_getElem h] at e2
      rw [Option.some.inj e2]
      exact ltB_self _
  intro j
  induction j with
  | zero => intro hj; exact key _ 0 hj H
  | succ j ih =>
    intro hj
    show adv _ _ (froms _ _ ((blocks g s n).length + (j + 1))) = _
    rw [show (blocks g s n).length + (j + 1) = (blocks g s n).length + j + 1 by omega, ih (by omega)]
    have := key (blocks g s n).length (j + 1) hj (Nat.le_refl _)
    rw [show (blocks g s n).length + (j + 1) = (blocks g s n).length + j + 1 by omega] at this
    exact this
theorem froms_at : ∀ n, n ≤ N → froms (blocks g s N) (blocks g s N) (blocks g s n).length ≤ (blocks g s n).length
  | 0, _ => Nat.zero_le _
  | n + 1, hn => by
    have ih := froms_at n (by omega)
    rw [blocks_succ, List.length_append, List.length_replicate]
    rcases Nat.eq_zero_or_pos (g n) with h | h
    · rw [h, Nat.add_zero]; exact ih
    · have := froms_in g s N hs n (by omega) ih (g n - 1) (by omega)
      rw [show (blocks g s n).length + (g n - 1) + 1 = (blocks g s n).length + g n by omega] at this
      omega
theorem same_in (n : Nat) (hn : n < N) : same (blocks g s N) (s n) (blocks g s n).length = g n := by
  have hl := blocks_len g s N n hn
  refine same_to (g n) _ hl (fun j h a b => ?_) (fun h => ?_)
  · have e := blocks_get g s N n (j - (blocks g s n).length) hn (by omega)
    rw [show (blocks g s n).length + (j - (blocks g s n).length) = j by omega, List.getElem?_eq_getElem h] at e
    exact Option.some.inj e
  · intro e
    obtain ⟨k, a, b, c⟩ := blocks_behind g s N n hn _ (List.getElem?_eq_getElem h)
    exact (hs n k a b).2.2 (e.symm.trans c)
theorem pairs_in_block (f : Nat × Nat → ByteArray) (hf : ∀ n, n < N → ∀ i t, i < g n → t < g n → f ((blocks g s n).length + i, (blocks g s n).length + t) = s n) (n : Nat) (hn : n < N) : ∀ j, j ≤ g n → (pairsI (blocks g s N) (blocks g s N) ((blocks g s n).length + j)).map f = (pairsI (blocks g s N) (blocks g s N) (blocks g s n).length).map f ++ List.replicate (j * g n) (s n)
  | 0, _ => by simp
  | j + 1, hj => by
    rw [← Nat.add_assoc]
    show (pairsI _ _ ((blocks g s n).length + j) ++ rowI _ _ ((blocks g s n).length + j)).map f = _
    rw [List.map_append, pairs_in_block f hf n hn j (by omega), List.append_assoc, Nat.add_mul, Nat.one_mul, ← List.replicate_append_replicate]
    congr 2
    unfold rowI
    have e : (blocks g s N).getD ((blocks g s n).length + j) ⟨#[]⟩ = s n := by rw [List.getD_eq_getElem?_getD, blocks_get g s N n j hn (by omega)]; rfl
    rw [e, froms_in g s N hs n hn (froms_at g s N hs n (by omega)) j (by omega), same_in g s N hs n hn, List.map_map]
    apply List.ext_getElem
    · simp
    · intro t h1 h2
      have ht : t < g n := by simpa using h1
      simp only [List.getElem_map, List.getElem_range, Function.comp, List.getElem_replicate]
      exact hf n hn j t (by omega) ht
theorem pairs_blocks (f : Nat × Nat → ByteArray) (hf : ∀ n, n < N → ∀ i t, i < g n → t < g n → f ((blocks g s n).length + i, (blocks g s n).length + t) = s n) : ∀ n, n ≤ N → (pairsI (blocks g s N) (blocks g s N) (blocks g s n).length).map f = blocks (fun k => g k * g k) s n
  | 0, _ => rfl
  | n + 1, hn => by
    rw [blocks_succ (fun k => g k * g k), blocks_succ, List.length_append, List.length_replicate, pairs_in_block g s N hs f hf n (by omega) (g n) (Nat.le_refl _), pairs_blocks f hf n (by omega)]
theorem sorted_blocks : sortedP (blocks g s N) = true := by
  have h : ∀ i, i < (blocks g s N).length → ∀ k, k ≤ N → i < (blocks g s k).length → True := fun _ _ _ _ _ => trivial
  have step : ∀ i, i + 1 < (blocks g s N).length → ltB ((blocks g s N).getD (i + 1) ⟨#[]⟩) ((blocks g s N).getD i ⟨#[]⟩) = false := by
    have : ∀ n, n ≤ N → ∀ i, i + 1 < (blocks g s n).length → ltB ((blocks g s N).getD (i + 1) ⟨#[]⟩) ((blocks g s N).getD i ⟨#[]⟩) = false := by
      intro n
      induction n with
      | zero => intro _ i h; exact absurd h (by simp [blocks])
      | succ n ih =>
        intro hn i hi
        rcases Nat.lt_or_ge (i + 1) (blocks g s n).length with h1 | h1
        · exact ih (by omega) i h1
        · rw [blocks_succ, List.length_append, List.length_replicate] at hi
          have e := blocks_get g s N n (i + 1 - (blocks g s n).length) (by omega) (by omega)
          rw [show (blocks g s n).length + (i + 1 - (blocks g s n).length) = i + 1 by omega] at e
          rw [List.getD_eq_getElem?_getD, List.getD_eq_getElem?_getD, e]
          rcases Nat.lt_or_ge i (blocks g s n).length with h2 | h2
          · obtain ⟨k, hk, e2⟩ := blocks_before g s N n i (by omega) h2
            rw [e2]
            exact (hs k n hk (by omega)).2.1
          · have e2 := blocks_get g s N n (i - (blocks g s n).length) (by omega) (by omega)
            rw [show (blocks g s n).length + (i - (blocks g s n).length) = i by omega] at e2
            rw [e2]
            exact ltB_self _
    exact this N (Nat.le_refl _)
  have dn : ∀ i, i < (blocks g s N).length → downP (blocks g s N) i = true := by
    intro i
    induction i with
    | zero => intro _; rfl
    | succ i ih =>
      intro hi
      simp only [downP]
      rw [step i hi, ih (by omega)]
      rfl
  unfold sortedP
  rcases Nat.eq_zero_or_pos (blocks g s N).length with h0 | h0
  · rw [h0]; rfl
  · exact dn _ (by omega)
end
theorem field_plain (x : ByteArray) (h : ∀ b ∈ x.data.toList, ((b.toNat : Int) == 58) = false) : fieldP 58 1 x = (x, []) := by
  have e : fieldsOf x 58 = [x] := by
    unfold fieldsOf
    rw [if_neg (by decide), partsOf_spl]
    unfold splitL
    rw [splitL_one _ _ h]
    simp [bs_of]
  unfold fieldP
  rw [e]
  rfl
theorem join_blocks (g : Nat → Nat) (s : Nat → ByteArray) (N : Nat) (hs : Rising s N) (hp : ∀ k, k < N → ∀ b ∈ (s k).data.toList, ((b.toNat : Int) == 58) = false) (hl : (blocks (fun k => g k * g k) s N).length ≤ 65536) :
    joinR (blocks g s N) (blocks g s N) 1 1 58 = (blocks (fun k => g k * g k) s N, 0) := by
  obtain ⟨A, hA⟩ : ∃ A, blocks g s N = A := ⟨_, rfl⟩
  have hm : (blocks g s N).map (fieldP 58 1) = (blocks g s N).map (fun x => (x, [])) := by
    apply List.map_congr_left
    intro x hx
    obtain ⟨k, hk, rfl⟩ := blocks_mem g s N x hx
    exact field_plain _ (hp k hk)
  have hm1 : ((blocks g s N).map (fun x => ((x, []) : FR))).map (·.1) = blocks g s N := by rw [List.map_map]; exact List.map_id _
  have hln : linesJ 58 ((blocks g s N).map (fun x => (x, []))) ((blocks g s N).map (fun x => (x, []))) = blocks (fun k => g k * g k) s N := by
    unfold linesJ
    rw [hm1, List.length_map]
    refine pairs_blocks g s N hs _ (fun n hn i t hi ht => ?_) N (Nat.le_refl _)
    have e1 := blocks_get g s N n i hn hi
    have e2 := blocks_get g s N n t hn ht
    simp only [List.getD_eq_getElem?_getD, List.getElem?_map, e1, e2, Option.map_some, Option.getD_some]
    unfold lineJ
    simp only [List.append_nil, List.map_cons, List.map_nil]
    rw [Lib.join_one]
  unfold joinR
  rw [if_neg (by decide), show (1 : Int).toNat = 1 from rfl, hm]
  unfold ansJ
  rw [hm1, sorted_blocks g s N hs, hln, if_neg (by simp), if_neg (by omega)]
end Go.Proofs.YthkaekeelokajaaDoor.P

end
section
/- ViewsKeys: lines of one field each, in order, joined with themselves, are each as often as the square of how often they stand there: the walk of the law. -/
set_option linter.unusedVariables false
set_option linter.unusedSimpArgs false
namespace Go.Proofs.YthkaekeelokajaaDoor.P
open Go.RowKit Go.Proofs Go.Proofs.YthkaekeelokajaaDoor.Q Go.Proofs.YthkaekeelokajaaDoor.H Go.Proofs.YthkaekeelokajaaDoor.C Go.Proofs.YthkaekeelokajaaDoor.S Go.Proofs.YthkaekeelokajaaDoorW.PrintWords Go.Proofs.YthkaekeelokajaaDoorW.PrintLast

/-- The array's cells. -/
def cntV (f : Nat → Nat) : Array Value := ((List.range 256).map fun i => .int .i64 (f i : Int)).toArray
theorem cntV_size (f : Nat → Nat) : (cntV f).size = 256 := by simp [cntV]
theorem cntV_zero : cntV (fun _ => 0) = Array.replicate 256 (.int .i64 0) := by
  unfold cntV
  apply Array.ext
  · simp
  · intro i h1 h2; simp
theorem cntV_get (f : Nat → Nat) (i : Nat) (h : i < 256) : (cntV f)[i]? = some (.int .i64 (f i : Int)) := by simp [cntV, h]
theorem cntV_set (f g : Nat → Nat) (k : Nat) (h : k < 256) (hg : ∀ i, i < 256 → g i = if i = k then f k + 1 else f i) : (cntV f).setIfInBounds k (.int .i64 ((f k : Int) + 1)) = cntV g := by
  apply Array.ext
  · simp [cntV]
  · intro i h1 h2
    simp only [cntV_size] at h2
    rw [Array.getElem_setIfInBounds (by simpa using h1)]
    have e1 := cntV_get f i h2
    have e2 := cntV_get g i h2
    rw [Array.getElem?_eq_getElem (by rw [cntV_size]; exact h2)] at e1 e2
    rw [Option.some.inj e1, Option.some.inj e2, hg i h2]
    by_cases h3 : k = i
    · subst h3; simp
    · rw [if_neg h3, if_neg (fun e => h3 e.symm)]
/-- How often each number stands among the first i. -/
def cnt (l : List Int) (i b : Nat) : Nat := (l.take i).count (b : Int)
theorem cnt_zero (l : List Int) : cnt l 0 = fun _ => 0 := by funext b; simp [cnt]
theorem cnt_succ (l : List Int) (i : Nat) (h : i < l.length) (k : Nat) (hk : l[i] = (k : Int)) (b : Nat) : cnt l (i + 1) b = if b = k then cnt l i k + 1 else cnt l i b := by
  unfold cnt
  rw [List.take_succ_eq_append_getElem h, List.count_append, hk]
  by_cases e : b = k
  · subst e; rw [if_pos rfl]; simp
  · rw [if_neg e]
    have : List.count (b : Int) [(k : Int)] = 0 := by rw [List.count_eq_zero]; simp; omega
    omega
theorem cnt_le (l : List Int) (i b : Nat) : cnt l i b ≤ l.length := by
  unfold cnt
  have := List.count_le_length (a := (b : Int)) (l := l.take i)
  rw [List.length_take] at this; omega
theorem blocks_all (g : Nat → Nat) (s : Nat → ByteArray) (n : Nat) : (blocks g s n).length = ((List.range n).map g).sum := by
  induction n with
  | zero => rfl
  | succ n ih => rw [blocks_succ, List.length_append, List.length_replicate, ih, List.range_succ, List.map_append, List.sum_append]; simp
theorem cnt_sum (l : List Int) (n : Nat) : ((List.range n).map (fun b : Nat => l.count (b : Int))).sum ≤ l.length := by
  induction l with
  | nil => simp; induction n with
    | zero => rfl
    | succ n ih => rw [List.range_succ, List.map_append, List.sum_append, ih]; rfl
  | cons x l ih =>
    have : ∀ n, ((List.range n).map (fun b : Nat => (x :: l).count (b : Int))).sum ≤ ((List.range n).map (fun b : Nat => l.count (b : Int))).sum + (if 0 ≤ x ∧ x < n then 1 else 0) := by
      intro n
      induction n with
      | zero => simp
      | succ n ih2 =>
        rw [List.range_succ, List.map_append, List.sum_append, List.map_append, List.sum_append]
        simp only [List.map_cons, List.map_nil, List.sum_cons, List.sum_nil, Nat.add_zero]
        rw [show (x :: l).count (n : Int) = l.count (n : Int) + (if (x == (n : Int)) = true then 1 else 0) from List.count_cons]
        by_cases e : x = (n : Int)
        · rw [if_neg (by omega)] at ih2
          rw [if_pos (by simpa using e), if_pos (by omega)]
          omega
        · rw [if_neg (by simpa using e)]
          by_cases e2 : 0 ≤ x ∧ x < (n : Int)
          · rw [if_pos e2] at ih2
            rw [if_pos (by omega)]
            omega
          · rw [if_neg e2] at ih2
            rw [if_neg (by omega)]
            omega
    have h := this n
    rw [List.length_cons]
    split at h <;> omega
/-- The line of a number. -/
def lineN (n : Nat) : ByteArray := ⟨#[UInt8.ofNat (97 + n / 16), UInt8.ofNat (97 + n % 16)]⟩
theorem lineN_list (n : Nat) : (lineN n).toList = [UInt8.ofNat (97 + n / 16), UInt8.ofNat (97 + n % 16)] := by rw [Lib.toList_data]; rfl
theorem lineN_rising : Rising lineN 256 := by
  intro i j hij hj
  have a1 : (UInt8.ofNat (97 + i / 16)).toNat = 97 + i / 16 := by rw [UInt8.toNat_ofNat']; omega
  have a2 : (UInt8.ofNat (97 + i % 16)).toNat = 97 + i % 16 := by rw [UInt8.toNat_ofNat']; omega
  have b1 : (UInt8.ofNat (97 + j / 16)).toNat = 97 + j / 16 := by rw [UInt8.toNat_ofNat']; omega
  have b2 : (UInt8.ofNat (97 + j % 16)).toNat = 97 + j % 16 := by rw [UInt8.toNat_ofNat']; omega
  have key : ∀ x y u v : UInt8, (x.toNat < u.toNat ∨ (x = u ∧ y.toNat < v.toNat)) → Op.bytesLess [x, y] [u, v] = true ∧ Op.bytesLess [u, v] [x, y] = false ∧ ¬ (x = u ∧ y = v) := by
    intro x y u v h
    simp only [Op.bytesLess]
    rcases h with h | ⟨rfl, h⟩
    · have n1 : x < u := UInt8.lt_iff_toNat_lt.2 h
      have n2 : ¬ u < x := fun e => by have := UInt8.lt_iff_toNat_lt.1 e; omega
      have n3 : ¬ u = x := fun e => by rw [e] at h; omega
      have n4 : ¬ x = u := fun e => n3 e.symm
      simp [n1, n2, n3, n4]
    · have n1 : y < v := UInt8.lt_iff_toNat_lt.2 h
      have n2 : ¬ v < y := fun e => by have := UInt8.lt_iff_toNat_lt.1 e; omega
      have n3 : ¬ v = y := fun e => by rw [e] at h; omega
      have n4 : ¬ y = v := fun e => n3 e.symm
      have n5 : ¬ x < x := fun e => by have := UInt8.lt_iff_toNat_lt.1 e; omega
      simp [n1, n2, n3, n4, n5]
  have h := key (UInt8.ofNat (97 + i / 16)) (UInt8.ofNat (97 + i % 16)) (UInt8.ofNat (97 + j / 16)) (UInt8.ofNat (97 + j % 16)) (by
    rw [a1, b1, a2, b2]
    by_cases e : i / 16 = j / 16
    · exact .inr ⟨by rw [e], by omega⟩
    · exact .inl (by omega))
  unfold ltB
  rw [lineN_list, lineN_list]
  refine ⟨h.1, h.2.1, fun e => h.2.2 ?_⟩
  have e2 := congrArg (fun x : ByteArray => x.data.toList) e
  unfold lineN at e2
  simpa using e2
theorem lineN_plain (k : Nat) (hk : k < 256) : ∀ b ∈ (lineN k).data.toList, ((b.toNat : Int) == 58) = false := by
  intro b hb
  have a1 : (UInt8.ofNat (97 + k / 16)).toNat = 97 + k / 16 := by rw [UInt8.toNat_ofNat']; omega
  have a2 : (UInt8.ofNat (97 + k % 16)).toNat = 97 + k % 16 := by rw [UInt8.toNat_ofNat']; omega
  rw [beq_eq_false_iff_ne]
  have hb' : b ∈ [UInt8.ofNat (97 + k / 16), UInt8.ofNat (97 + k % 16)] := hb
  intro e
  rcases List.mem_cons.1 hb' with h | h
  · rw [h] at e; omega
  · rw [List.mem_singleton.1 h] at e; omega
theorem blocks_size (g : Nat → Nat) (n : Nat) : ∀ x ∈ blocks g lineN n, x.size ≤ 20000 := by
  intro x hx
  obtain ⟨k, _, rfl⟩ := blocks_mem g lineN n x hx
  show 2 ≤ _
  decide
section
variable {ops : Array Oper} {rest : List Oper} {o : Oper} {a : Act} {Q : Exit → Act → World → Prop}
/-- append(l, s), and where the list lies then. -/
theorem app_txtB (w : World) (base : Nat) (hgd : o.guard = none) (s x : Operand) (ho : o.op = .call { callee := .builtin .append, args := #[s, x], argTypes := #[25, 25] })
    (v : Value) (L L2 : List ByteArray) (c : ByteArray) (hL2 : L ++ [c] = L2) (hs : a.eval s = v) (hx : a.eval x = .slice (some ⟨w.heap.size, 0, none⟩) 1 1) (HO : Txs base v L w) (hbase : base ≤ w.heap.size) (hl : L.length + 1 ≤ 8000000000000)
    (h : ∀ v1 w1, Txs base v1 L2 w1 → w.grownBy w1 v.ownBlock → (v1.ownBlock = v.ownBlock ∨ ∃ b, v1.ownBlock = some b ∧ w.heap.size ≤ b) → wpList Tryd.prog ops Q rest (a.put o.dst v1) w1) :
    wpList Tryd.prog ops Q (o :: rest) a (w.alloc (.cells #[.string c] 9)) := by
  subst hL2
  obtain ⟨i0, hi, hz0, hz1, hz2⟩ := info_parts infoS
  refine wpList_append_own_at _ hgd s x 25 ho base 9 i0 (.string ⟨#[]⟩) 1 16 Tryd.underlying25 hi hz0 hz1 hz2 rfl (by decide) v L.length (strs L) hs (World.ownsRow.alloc HO _) ⟨w.heap.size, 0, none⟩ 1 1 [.string c] hx rfl ?c1 ?c2 ?c3 ?c4 ?c5 ?_
  case c1 =>
    intro j u hj
    match j, hj with
    | 0, hj => simp at hj; subst hj; simp [Addr.add]
  case c2 => intro u hu; simp at hu; subst hu; rfl
  case c3 => unfold maxLen; omega
  case c4 => omega
  case c5 => simp; omega
  intro v1 w1 hown hg _ hat
  refine h v1 w1 ?_ ⟨hg.os, hg.tape, hg.output, by have := hg.size; simp at this; omega, fun k hk hr => (hg.block k (by simp; omega) hr).trans (Lib.alloc_old w _ k hk)⟩ ?_
  · unfold Txs
    rw [strs_append, List.length_append, List.length_singleton]
    exact hown
  · rcases hat with hat | hat
    · exact .inl hat
    · exact .inr ⟨_, hat, by simp⟩
end
/-- Two lists that grow. -/
structure KS (w : World) (va vb : Value) (La Lb : List ByteArray) (W : World) : Prop where
  a : Txs w.heap.size va La W
  b : Txs w.heap.size vb Lb W
  ne : NeRow va vb
  low : Below w.heap.size w W
theorem KS.below {w : World} {va vb : Value} {La Lb : List ByteArray} {W W' : World} (h : KS w va vb La Lb W) (hb : Below W.heap.size W W') : KS w va vb La Lb W' := ⟨h.a.below hb, h.b.below hb, h.ne, bth h.low hb⟩
theorem KS.appA {w : World} {va vb v1 : Value} {La Lb L1 : List ByteArray} {W w1 : World} (h : KS w va vb La Lb W) (hb : Txs w.heap.size v1 L1 w1) (hg : W.grownBy w1 va.ownBlock) (hat : v1.ownBlock = va.ownBlock ∨ ∃ b, v1.ownBlock = some b ∧ W.heap.size ≤ b) : KS w v1 vb L1 Lb w1 :=
  ⟨hb, World.ownsRow.kept h.b hg (ne_other h.ne), ne_append h.ne hat h.b, h.low.grown hg h.low.size (fun k hk => own_base h.a k hk)⟩
theorem KS.appB {w : World} {va vb v1 : Value} {La Lb L1 : List ByteArray} {W w1 : World} (h : KS w va vb La Lb W) (hb : Txs w.heap.size v1 L1 w1) (hg : W.grownBy w1 vb.ownBlock) (hat : v1.ownBlock = vb.ownBlock ∨ ∃ b, v1.ownBlock = some b ∧ W.heap.size ≤ b) : KS w va v1 La L1 w1 :=
  ⟨World.ownsRow.kept h.a hg (ne_other (ne_symm h.ne)), hb, ne_symm (ne_append (ne_symm h.ne) hat h.a), h.low.grown hg h.low.size (fun k hk => own_base h.b k hk)⟩
theorem C_atI {w w1 : World} {A : Option Addr} {l : List Int} (h : Kd.C (Kd.int .u8) w A l.length l) (hb : Below w.heap.size w w1) (k : Nat) (hk : k < l.length) : ∃ ad, A = some ad ∧ w1.cell? (ad.add k) = some (.int .u8 l[k]) := by
  obtain ⟨ad, e, hc⟩ := h.2.2 (by omega)
  obtain ⟨c, _, hc1, hc2⟩ := hc k l[k] (List.getElem?_eq_getElem hk)
  refine ⟨ad, e, pw_cell_below hb ?_⟩
  subst hc1
  have := hc2 0 _ rfl
  simpa [show (Kd.int .u8).sz = 1 from rfl] using this
theorem conv_two (W : World) (c d : UInt8) (g : Nat) (h0 : W.cell? ⟨g, 0, none⟩ = some (.int .u8 (c.toNat : Int))) (h1 : W.cell? ⟨g, 1, none⟩ = some (.int .u8 (d.toNat : Int))) : (convert 53 9 (.slice (some ⟨g, 0, none⟩) 2 2)).run Tryd.prog W = .ok (.string ⟨#[c, d]⟩) W :=
  run_convert_bytes_back (P := Tryd.prog) W 53 9 5 ⟨g, 0, none⟩ 2 [c, d] Tryd.underlying53 Tryd.underlying5 Tryd.underlying9 (fun j hj => by
    rw [add_plain]
    match j, hj with
    | 0, _ => simpa using h0
    | 1, _ => simpa using h1
    | j + 2, h => exact absurd h (by simp))
set_option maxHeartbeats 4000000 in
set_option maxRecDepth 100000 in
theorem ViewsKeys_walk (A0 : Option Addr) (z0 : Nat) (l0 : List Int) (W : World) (hT : TzW W) (hr0 : Kd.C (Kd.int .u8) W A0 l0.length l0) (hc0 : l0.length ≤ z0) (ok0 : (∀ a ∈ l0, (Lit.int .u8 a).wf = true) ∧ l0.length * 1 ≤ 140737488351232) :
    Calls Tryd.prog 7 #[.slice A0 l0.length z0] W fun e W' => e = .returned (.bool true) ∧ Below W.heap.size W W' := by
  have R0 := Lib.hid hr0
  have HT := Lib.hid hT
  have HAL := Lib.hid (fun w h => alive_calls w h)
  have hbyte : ∀ k (h : k < l0.length), ∃ b : Nat, l0[k] = (b : Int) ∧ b < 256 := fun k h => by
    have h0 := ok0.1 l0[k] (List.getElem_mem h)
    have h' : 0 ≤ l0[k] ∧ l0[k] ≤ 255 := by simpa [Lit.wf, IntKind.min, IntKind.max, IntKind.signed, IntKind.bits] using h0
    exact ⟨l0[k].toNat, by omega, by omega⟩
  have HBY := Lib.hid hbyte
  clear hr0 hT ok0 hbyte
  by_cases hb : 200 < l0.length
  · have d1 : decide ((200 : Int) < (l0.length : Int)) = true := decide_eq_true (by omega)
    clear hb
    go_enter Tryd.func7, Tryd.ntmps7
    go_wp2_with fail
    with_reducible refine (HAL.out _ HT.out).mono ?_
    rintro e w1 ⟨rfl, hb1⟩
    have B1 := Lib.hid hb1
    clear hb1
    go_wp2_with fail
    with_reducible refine (HAL.out _ (HT.out.below B1.out)).mono ?_
    rintro e w9 ⟨rfl, hb9⟩
    go_wp2
    go_ret
    exact ⟨rfl, bth B1.out hb9⟩
  · have d1 : decide ((200 : Int) < (l0.length : Int)) = false := decide_eq_false (by omega)
    have hl : l0.length ≤ 200 := by omega
    clear hb
    go_enter Tryd.func7, Tryd.ntmps7
    go_wp2_with fail
    with_reducible refine (HAL.out _ HT.out).mono ?_
    rintro e w1 ⟨rfl, hb1⟩
    have B1 := Lib.hid hb1
    clear hb1
    obtain ⟨W0, hW0⟩ : ∃ W0, w1.alloc (.cells (cntV fun _ => 0) 56) = W0 := ⟨_, rfl⟩
    have b0 : Below w1.heap.size w1 W0 := by rw [← hW0]; exact bal (Below.refl _ _) _
    have g0 : W0.heap[w1.heap.size]? = some (.cells (cntV fun _ => 0) 56 (0, 0)) := by rw [← hW0]; exact heap_alloc_new _ _
    have HW := Lib.hid hW0
    have B0 := Lib.hid (And.intro b0 g0)
    clear hW0 b0 g0
    go_wp2_with (refine Great.wpList_allocTo rfl (some 3) rfl (.pointer (some ⟨w1.heap.size, 0, none⟩)) (.cells (Array.replicate 256 (.int .i64 0)) 56) (by kernel_rfl) ?_)
    rw [← cntV_zero, HW.out]
    go_loopw [4] (fun i wr => ∃ k : Nat, k ≤ l0.length ∧ i = .int .i64 (k : Int) ∧ Hid (Below w1.heap.size w1 wr ∧ wr.heap[w1.heap.size]? = some (.cells (cntV (cnt l0 k)) 56 (0, 0)))) (fun i _ => l0.length - (intOf i).toNat)
    case atStart => exact ⟨0, Nat.zero_le _, rfl, by rw [cnt_zero]; exact B0⟩
    case round =>
      obtain ⟨k, hk, rfl, hst⟩ := hrel
      by_cases hlt : k < l0.length
      · obtain ⟨b, hbe, hb⟩ := HBY.out k hlt
        obtain ⟨ad, rfl, hx⟩ := C_atI R0.out (bth B1.out hst.out.1) k hlt
        rw [hbe] at hx
        obtain ⟨q, hq⟩ : ∃ q, cnt l0 k b = q := ⟨_, rfl⟩
        have hq2 : q ≤ 200 := by have := cnt_le l0 k b; omega
        have c0 : wr.cell? ⟨w1.heap.size, b, none⟩ = some (.int .i64 (q : Int)) := by
          rw [Lib.cell_of_heap hst.out.2, cntV_get _ b hb, hq]
        have f0 : wr.frozen? ⟨w1.heap.size, b, none⟩ = false := Lib.frozen_of_heap hst.out.2 b
        have hs2 := Lib.hid (show (wr.setCell ⟨w1.heap.size, b, none⟩ (.int .i64 ((q : Int) + 1))).heap[w1.heap.size]? = some (.cells (cntV (cnt l0 (k + 1))) 56 (0, 0)) by
          rw [heap_setCell_same _ _ _ _ _ _ hst.out.2]
          show some (Obj.cells ((cntV (cnt l0 k)).setIfInBounds b (.int .i64 ((q : Int) + 1))) _ _) = _
          rw [← hq, cntV_set (cnt l0 k) (cnt l0 (k + 1)) b hb (fun i _ => cnt_succ l0 k hlt b hbe i)])
        clear hq hbe
        go_wp2
        go_roundw
        case rel => exact ⟨k + 1, hlt, by go_num, Lib.hid ⟨hst.out.1.setCell (p := ⟨w1.heap.size, b, none⟩) (Nat.le_refl _) _, hs2.out⟩⟩
        case measure => simp [intOf]; omega
      · obtain rfl : k = l0.length := by omega
        have hsum := cnt_sum l0 256
        obtain ⟨g, hg⟩ : ∃ g : Nat → Nat, cnt l0 l0.length = g := ⟨_, rfl⟩
        have hgs : ((List.range 256).map g).sum ≤ 200 := by
          rw [← hg]
          refine Nat.le_trans (Nat.le_of_eq ?_) (Nat.le_trans hsum hl)
          unfold cnt
          rw [List.take_length]
        have hg200 : ∀ n, g n ≤ 200 := fun n => by rw [← hg]; have := cnt_le l0 l0.length n; omega
        rw [hg] at hst
        have HG := Lib.hid (And.intro hgs hg200)
        obtain ⟨w3, hw3⟩ : ∃ w3 : World, w3 = wr := ⟨wr, rfl⟩
        subst hw3
        have B3 := Lib.hid (bth B1.out hst.out.1)
        have M3 := Lib.hid (show ∀ V, Below w3.heap.size w3 V → V.heap[w1.heap.size]? = some (.cells (cntV g) 56 (0, 0)) from fun V hV => (hV.block _ (Array.getElem?_eq_some_iff.1 hst.out.2).1).trans hst.out.2)
        clear hg hgs hg200 hsum hst
        go_wp2
        go_loopw [5, 6, 7] (fun va vb i wr => ∃ n : Nat, n ≤ 256 ∧ i = .int .i64 (n : Int) ∧ Hid (KS w3 va vb (blocks g lineN n) (blocks (fun k => g k * g k) lineN n) wr)) (fun _ _ i _ => 256 - (intOf i).toNat)
        case atStart => exact ⟨0, by decide, rfl, Lib.hid ⟨Txs.nil _ _, Txs.nil _ _, ne_nil _, Below.refl _ _⟩⟩
        case round =>
          obtain ⟨n, hn, rfl, hks⟩ := hrel
          by_cases hlt : n < 256
          · have hdn : decide ((n : Int) < 256) = true := decide_eq_true (by omega)
            have hcv : (convert 53 9 (.slice (some ⟨wr.heap.size, 0, none⟩) 2 2)).run Tryd.prog (wr.alloc (.cells #[.int .u8 (97 + (n : Int) / 16), .int .u8 (97 + (n : Int) % 16)] 5)) = .ok (.string (lineN n)) (wr.alloc (.cells #[.int .u8 (97 + (n : Int) / 16), .int .u8 (97 + (n : Int) % 16)] 5)) := by
              have e1 : (97 + (n : Int) / 16) = ((UInt8.ofNat (97 + n / 16)).toNat : Int) := by rw [UInt8.toNat_ofNat']; omega
              have e2 : (97 + (n : Int) % 16) = ((UInt8.ofNat (97 + n % 16)).toNat : Int) := by rw [UInt8.toNat_ofNat']; omega
              rw [e1, e2]
              exact conv_two _ _ _ wr.heap.size (by rw [Lib.cell_of_heap (heap_alloc_new _ _)]; rfl) (by rw [Lib.cell_of_heap (heap_alloc_new _ _)]; rfl)
            have bs1 := blocks_succ g lineN n
            have bs2 := blocks_succ (fun k => g k * g k) lineN n
            have hG2 := HG.out.2 n
            have hk0 := Lib.hid (hks.out.below (bal (Below.refl wr.heap.size wr) (.cells #[.int .u8 (97 + (n : Int) / 16), .int .u8 (97 + (n : Int) % 16)] 5)))
            have hla : (blocks g lineN n).length ≤ 200 := by
              rw [blocks_all]
              refine Nat.le_trans ?_ HG.out.1
              obtain ⟨d, hd⟩ : ∃ d, 256 = n + d := ⟨256 - n, by omega⟩
              rw [hd, List.range_add, List.map_append, List.sum_append]
              exact Nat.le_add_right _ _
            have hlb : (blocks (fun k => g k * g k) lineN n).length ≤ 256 * 40000 := by
              rw [blocks_all]
              have : ∀ m, ((List.range m).map (fun k => g k * g k)).sum ≤ m * 40000 := by
                intro m
                induction m with
                | zero => simp
                | succ m ih =>
                  rw [List.range_succ, List.map_append, List.sum_append]
                  simp only [List.map_cons, List.map_nil, List.sum_cons, List.sum_nil, Nat.add_zero]
                  have := Nat.mul_le_mul (HG.out.2 m) (HG.out.2 m)
                  omega
              have := this n
              omega
            obtain ⟨X, hX⟩ : ∃ X, lineN n = X := ⟨_, rfl⟩
            obtain ⟨La, hLa⟩ : ∃ La, blocks g lineN n = La := ⟨_, rfl⟩
            obtain ⟨Lb, hLb⟩ : ∃ Lb, blocks (fun k => g k * g k) lineN n = Lb := ⟨_, rfl⟩
            obtain ⟨G, hG⟩ : ∃ G, g n = G := ⟨_, rfl⟩
            rw [hX] at hcv bs1 bs2
            rw [hLa] at bs1 hla hk0
            rw [hLb] at bs2 hlb hk0
            have hGG := hG2
            rw [hG] at bs1 hG2
            simp only [hG] at bs2
            obtain ⟨P, hP⟩ : ∃ P, G * G = P := ⟨_, rfl⟩
            have hP2 : P ≤ 40000 := by rw [← hP]; exact Nat.mul_le_mul hG2 hG2
            have hPi : (G : Int) * (G : Int) = (P : Int) := by rw [← hP]; exact (Int.natCast_mul G G).symm
            have hPw : IntKind.i64.wrap (P : Int) = (P : Int) := IntWalk.i64_in _ (by omega)
            rw [hP] at bs2
            have BS := Lib.hid (And.intro bs1 bs2)
            have CE := Lib.hid (show ∀ V, Below w3.heap.size w3 V → V.cell? ⟨w1.heap.size, n, none⟩ = some (.int .i64 (G : Int)) from fun V hV => by rw [Lib.cell_of_heap (M3.out V hV), cntV_get _ n hlt, hG])
            clear hX hLa hLb hG hP bs1 bs2 hGG hks
            go_wp2
            go_loopw [5, 9] (fun va i wa => ∃ j : Nat, j ≤ G ∧ i = .int .i64 (j : Int) ∧ Hid (KS w3 va u6 (La ++ List.replicate j X) Lb wa)) (fun _ i _ => G - (intOf i).toNat)
            case atStart => exact ⟨0, Nat.zero_le _, rfl, Lib.hid (by rw [List.replicate_zero, List.append_nil]; exact hk0.out)⟩
            case round =>
              obtain ⟨j, hj, rfl, hka⟩ := hrel
              have c0 := CE.out _ hka.out.low
              by_cases hja : j < G
              · have hsn := Lib.hid (show La ++ List.replicate j X ++ [X] = La ++ List.replicate (j + 1) X by rw [List.append_assoc, ← List.replicate_succ'])
                have hln := Lib.hid (show (La ++ List.replicate j X).length + 1 ≤ 8000000000000 by rw [List.length_append, List.length_replicate]; omega)
                go_wp2_with (at_builtin; go_loud (refine app_txtB _ w3.heap.size rfl (.tmp 56) (.tmp 58) rfl u5 _ (La ++ List.replicate (j + 1) X) X hsn.out rfl rfl hka.out.a hka.out.low.size hln.out ?_))
                intro v1 w5 h1 h2 h3
                have KA := Lib.hid (hka.out.appA h1 h2 h3)
                clear h1 h2 h3
                go_wp2
                go_roundw
                case rel => exact ⟨j + 1, hja, by go_num, KA⟩
                case measure => simp [intOf]; omega
              · obtain rfl : j = G := by omega
                have hkb := hka.out
                rw [← BS.out.1] at hkb
                have HKB := Lib.hid hkb
                clear hkb hka
                go_wp2
                go_loopw [6, 10] (fun vb i wb => ∃ q : Nat, q ≤ P ∧ i = .int .i64 (q : Int) ∧ Hid (KS w3 u5 vb (blocks g lineN (n + 1)) (Lb ++ List.replicate q X) wb)) (fun _ i _ => P - (intOf i).toNat)
                case atStart => exact ⟨0, Nat.zero_le _, rfl, Lib.hid (by rw [List.replicate_zero, List.append_nil]; exact HKB.out)⟩
                case round =>
                  obtain ⟨q, hq, rfl, hkc⟩ := hrel
                  have c0 := CE.out _ hkc.out.low
                  by_cases hqa : q < P
                  · have hsn := Lib.hid (show Lb ++ List.replicate q X ++ [X] = Lb ++ List.replicate (q + 1) X by rw [List.append_assoc, ← List.replicate_succ'])
                    have hln := Lib.hid (show (Lb ++ List.replicate q X).length + 1 ≤ 8000000000000 by rw [List.length_append, List.length_replicate]; omega)
                    go_wp2_with fail
                    go_quiet (fail)
                    go_wp2_with (at_builtin; go_loud (refine app_txtB _ w3.heap.size rfl (.tmp 71) (.tmp 73) rfl u6 _ (Lb ++ List.replicate (q + 1) X) X hsn.out rfl rfl (hkc.out.b.below (bdn (Below.refl _ _) _)) (bdn hkc.out.low _).size hln.out ?_))
                    intro v1 w5 h1 h2 h3
                    have KB := Lib.hid ((hkc.out.below (bdn (Below.refl _ _) _)).appB h1 h2 h3)
                    clear h1 h2 h3
                    go_wp2
                    go_roundw
                    case rel => exact ⟨q + 1, hqa, by go_num, KB⟩
                    case measure => simp [intOf]; omega
                  · obtain rfl : q = P := by omega
                    have hke := hkc.out
                    rw [← BS.out.2] at hke
                    have HKE := Lib.hid (hke.below (bdn (Below.refl _ _) 0))
                    go_wp2_with fail
                    go_quiet (fail)
                    go_wp2
                    go_roundw
                    case rel => exact ⟨n + 1, hlt, by go_num, Lib.hid (hke.below (bdn (Below.refl _ _) _))⟩
                    case measure => simp [intOf]; omega
          · obtain rfl : n = 256 := by omega
            have hsq : ∀ m, ((List.range m).map (fun k => g k * g k)).sum ≤ 200 * ((List.range m).map g).sum := by
              intro m
              induction m with
              | zero => simp
              | succ m ih =>
                rw [List.range_succ, List.map_append, List.sum_append, List.map_append, List.sum_append]
                simp only [List.map_cons, List.map_nil, List.sum_cons, List.sum_nil, Nat.add_zero]
                have := Nat.mul_le_mul_right (g m) (HG.out.2 m)
                rw [Nat.mul_add]
                omega
            have hla : (blocks g lineN 256).length ≤ 200 := by rw [blocks_all]; exact HG.out.1
            have hlb : (blocks (fun k => g k * g k) lineN 256).length ≤ 40000 := by
              rw [blocks_all]
              have h1 := hsq 256
              have h2 := HG.out.1
              omega
            have hjb := join_blocks g lineN 256 lineN_rising (fun k hk => lineN_plain k hk) (by omega)
            have hsz := blocks_size g 256
            obtain ⟨LA, hLA⟩ : ∃ LA, blocks g lineN 256 = LA := ⟨_, rfl⟩
            obtain ⟨LB, hLB⟩ : ∃ LB, blocks (fun k => g k * g k) lineN 256 = LB := ⟨_, rfl⟩
            rw [hLA] at hks hla hjb hsz
            rw [hLB] at hks hlb hjb
            obtain ⟨ks, hke⟩ := same_ev LB (by omega)
            have KE := Lib.hid hke
            obtain ⟨Aa, ca, rfl, hca, hCa⟩ := hks.out.a.reads
            obtain ⟨Ab, cb, rfl, hcb, hCb⟩ := hks.out.b.reads
            have hjc := join_calls Aa Aa ca ca LA LA 1 1 58 (by decide) (by decide) wr hCa hCa hca hca (by omega) (by omega) hsz hsz
            rw [hjb] at hjc
            have HJC := Lib.hid hjc
            have CB := Lib.hid hCb
            have B4 := Lib.hid (bth B3.out hks.out.low)
            clear hsq hla hlb hjb hsz hLA hLB hke hCa hCb hjc hks
            go_wp2_with fail
            with_reducible refine HJC.out.mono ?_
            rintro e w4 ⟨v, rfl, ht⟩
            obtain ⟨Ac, cc, rfl, hcc, hCc⟩ := ts_reads ht
            have C4 := Lib.hid (And.intro hCc (Kd.C_below CB.out ht.low))
            have B5 := Lib.hid (bth B4.out ht.low)
            clear hCc ht
            go_wp2_with fail
            with_reducible refine (toolchestlaw01_SameTexts.calls ks Ac cc LB Ab cb LB true _ C4.out.1 hcc C4.out.2 hcb KE.out).mono ?_
            first | (rintro e w5 rfl hb5) | (rintro e w5 ⟨rfl, hb5⟩)
            have B6 := Lib.hid (bth B5.out hb5.below)
            clear hb5
            go_wp2
            go_ret
            exact ⟨rfl, B6.out⟩
end Go.Proofs.YthkaekeelokajaaDoor.P

end
