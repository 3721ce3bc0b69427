/- LinesFields: the plain law. -/
import Derived.Test.YtgbhcanfjmefiaaQx19
import Derived.Test.YtgbhcanfjmefiaaEv
set_option linter.unusedVariables false
set_option linter.unusedSimpArgs false
namespace Go.Proofs.Ytgbhcanfjmefiaa.Pure
open Go.RowKit Go.Proofs.Ytgbhcanfjmefiaa.Q Go.Proofs.YtgbhcanfjmefiaaW.PrintWords Go.Proofs.YtgbhcanfjmefiaaW.PrintLast Go.Proofs.Ytgbhcanfjmefiaa.S

theorem byte_ne {c d : UInt8} (h : c ≠ d) : ¬ (c.toNat : Int) = (d.toNat : Int) := fun e => h (UInt8.toNat_inj.1 (by omega))
theorem byte_beq (c d : UInt8) : ((c.toNat : Int) == (d.toNat : Int)) = (c == d) := by
  by_cases h : c = d
  · subst h; simp
  · rw [beq_eq_false_iff_ne.2 (byte_ne h), beq_eq_false_iff_ne.2 h]
theorem shift_le {n d c : Nat} (h : n + (d + 1) ≤ c) : n + 1 + d ≤ c := by omega
theorem shift_lt {n d c : Nat} (h : n + (d + 1) ≤ c) : n + d ≤ c := by omega
theorem bt_bs (x : List UInt8) (j : Nat) (h : j < x.length) : bt (bs x) (j : Int) = ((x[j]).toNat : Int) := by
  have := bt_list (bs x) j (by rw [bs_toList]; exact h)
  simp only [bs_toList] at this
  exact this
theorem rd_bs (L : List (List UInt8)) (i : Nat) (h : i < L.length) : rdOf ByteArray.empty (L.map bs) (i : Int) = bs L[i] := by
  rw [rdOf_at _ i (by rw [List.length_map]; exact h), List.getElem_map]
theorem blankB_iff (c : UInt8) : blankI (c.toNat : Int) = true ↔ c = 32 ∨ c = 9 := by
  have h1 := byte_beq c 32
  have h2 := byte_beq c 9
  unfold blankI
  rw [show ((32 : UInt8).toNat : Int) = 32 from rfl] at h1
  rw [show ((9 : UInt8).toNat : Int) = 9 from rfl] at h2
  rw [h1, h2]
  simp
def blankC (c : UInt8) : Bool := blankI (c.toNat : Int)

/-- How many bytes lines have together. -/
def sumL (L : List (List UInt8)) : Nat := (L.map List.length).sum
theorem sumL_cons (x : List UInt8) (L : List (List UInt8)) : sumL (x :: L) = x.length + sumL L := by simp [sumL]
theorem words_sum (l : List UInt8) : sumL ((splitL blankC l).filter (fun x => !x.isEmpty)) + l.countP blankC = l.length := by
  refine parts_ind blankC (C := fun l => sumL ((splitL blankC l).filter (fun x => !x.isEmpty)) + l.countP blankC = l.length) ?_ ?_ l
  · intro l hl
    have h0 : l.countP blankC = 0 := by rw [List.countP_eq_zero]; intro a ha; rw [hl a ha]; decide
    have h1 : splitL blankC l = [l] := by unfold splitL; rw [splitL_one blankC l hl]; rfl
    rw [h0, h1]
    cases l <;> simp [sumL]
  · intro l c r hl hc ih
    have h0 : l.countP blankC = 0 := by rw [List.countP_eq_zero]; intro a ha; rw [hl a ha]; decide
    have h1 : splitL blankC l = [l] := by unfold splitL; rw [splitL_one blankC l hl]; rfl
    have h2 : sumL ([l].filter (fun x => !x.isEmpty)) = l.length := by cases l <;> simp [sumL]
    have h3 : ∀ A B : List (List UInt8), sumL (A ++ B) = sumL A + sumL B := by intro A B; simp [sumL]
    rw [splitL_app blankC l r c hc, List.filter_append, h3, h1, h2, List.countP_append, h0, List.countP_cons_of_pos hc, List.length_append, List.length_cons]
    omega

theorem blank_l1 (s : ByteArray) (L : List (List UInt8)) (i : Nat) (hi : i < L.length) (x : List UInt8) (hx : L[i] = x) (hn : ∀ c ∈ x, blankC c = false) (hz : x.length ≤ 1048576) (hli : i ≤ 2000000) {r : Bool} :
    ∀ (d j n : Nat), j + d = x.length → n + d ≤ 4000000 → Ev (fun k => toolchestlaw02_LinesFields.l0 k s (L.map bs) ((n + d : Nat) : Int) ((i + 1 : Nat) : Int)) r →
    Ev (fun k => toolchestlaw02_LinesFields.l1 k s (L.map bs) (n : Int) (i : Int) (j : Int)) r := by
  have c1 := nat_nn i
  have c2 : (i : Int) < ((L.map bs).length : Int) := by rw [List.length_map]; exact nat_lt hi
  have hr : rdOf ByteArray.empty (L.map bs) (i : Int) = bs x := by rw [rd_bs L i hi, hx]
  have hwi := wrap_one i (by omega)
  have hsz : ((bs x).size : Int) = (x.length : Int) := by rw [bs_size]
  intro d
  induction d with
  | zero =>
    intro j n hj hnd h
    refine h.step fun k hk => ?_
    simp only [toolchestlaw02_LinesFields.l1]
    rw [if_pos c1, if_pos c2, hr, hsz, if_neg (not_nat_lt (by omega)), hwi]
    exact hk
  | succ d ih =>
    intro j n hj hnd h
    have hlt : j < x.length := by omega
    have hb := bt_bs x j hlt
    have hbl := hn x[j] (List.getElem_mem hlt)
    have hne : ¬ (x[j] = 32 ∨ x[j] = 9) := fun h' => by
      have := (blankB_iff x[j]).2 h'
      unfold blankC at hbl
      rw [hbl] at this; cases this
    have n32 : ¬ ((x[j]).toNat : Int) = 32 := byte_ne (d := 32) (fun e => hne (.inl e))
    have n9 : ¬ ((x[j]).toNat : Int) = 9 := byte_ne (d := 9) (fun e => hne (.inr e))
    have hwj := wrap_one j (by omega)
    have hwn := wrap_one n (by omega)
    have e1 : n + (d + 1) = n + 1 + d := by omega
    rw [e1] at h
    refine (ih (j + 1) (n + 1) (by omega) (shift_le hnd) h).step fun k hk => ?_
    simp only [toolchestlaw02_LinesFields.l1]
    rw [if_pos c1, if_pos c2, hr, hsz, if_pos (nat_lt hlt), if_pos (nat_nn j), hb, if_neg n32, if_neg n9, hwj, hwn]
    exact hk
theorem blank_l2 (s : ByteArray) (hs : s.size ≤ 1048576) : ∀ (d i n : Nat), i + d = s.size → n + d ≤ 4000000 →
    n + (s.data.toList.drop i).countP blankC = s.size → Ev (fun k => toolchestlaw02_LinesFields.l2 k s (n : Int) (i : Int)) true := by
  have hlen : s.data.toList.length = s.size := (Lib.size_eq s).symm
  intro d
  induction d with
  | zero =>
    intro i n hi hnd h
    rw [List.drop_eq_nil_of_le (by omega), List.countP_nil, Nat.add_zero] at h
    refine Ev.now fun k => ?_
    simp only [toolchestlaw02_LinesFields.l2]
    rw [if_neg (not_nat_lt (by omega)), h, beq_self_eq_true]
  | succ d ih =>
    intro i n hi hnd h
    have hlt : i < s.data.toList.length := by omega
    have hb := bt_list s i hlt
    have hwi := wrap_one i (by omega)
    have hwn := wrap_one n (by omega)
    rw [List.drop_eq_getElem_cons hlt] at h
    have c0 : (i : Int) < (s.size : Int) := nat_lt (by omega)
    cases hc : blankC s.data.toList[i] with
    | true =>
      rw [List.countP_cons_of_pos hc] at h
      refine (ih (i + 1) (n + 1) (by omega) (shift_le hnd) (by omega)).step fun k hk => ?_
      simp only [toolchestlaw02_LinesFields.l2]
      rw [if_pos c0, if_pos (nat_nn i), hb, hwi, hwn]
      rcases (blankB_iff _).1 hc with e | e
      · rw [e, if_pos (show ((32 : UInt8).toNat : Int) = 32 from rfl)]; exact hk
      · rw [e, if_neg (show ¬ ((9 : UInt8).toNat : Int) = 32 by decide), if_pos (show ((9 : UInt8).toNat : Int) = 9 from rfl)]; exact hk
    | false =>
      rw [List.countP_cons_of_neg (by rw [hc]; decide)] at h
      have hne : ¬ (s.data.toList[i] = 32 ∨ s.data.toList[i] = 9) := fun h' => by
        have := (blankB_iff _).2 h'
        unfold blankC at hc
        rw [hc] at this; cases this
      have n32 : ¬ ((s.data.toList[i]).toNat : Int) = 32 := byte_ne (d := 32) (fun e => hne (.inl e))
      have n9 : ¬ ((s.data.toList[i]).toNat : Int) = 9 := byte_ne (d := 9) (fun e => hne (.inr e))
      refine (ih (i + 1) n (by omega) (shift_lt hnd) (by omega)).step fun k hk => ?_
      simp only [toolchestlaw02_LinesFields.l2]
      rw [if_pos c0, if_pos (nat_nn i), hb, hwi, if_neg n32, if_neg n9]
      exact hk
theorem blank_l0 (s : ByteArray) (hs : s.size ≤ 1048576) (L : List (List UInt8)) (hl : L.length ≤ 2000000) (hL : ∀ x ∈ L, x ≠ [] ∧ x.length ≤ 1048576 ∧ ∀ c ∈ x, blankC c = false) (hsum : sumL L + s.data.toList.countP blankC = s.size) :
    ∀ (d i n : Nat), i + d = L.length → n + sumL (L.drop i) = sumL L → Ev (fun k => toolchestlaw02_LinesFields.l0 k s (L.map bs) (n : Int) (i : Int)) true := by
  intro d
  induction d with
  | zero =>
    intro i n hi hn
    rw [List.drop_eq_nil_of_le (by omega)] at hn
    have hn' : n = sumL L := by simpa [sumL] using hn
    refine (blank_l2 s hs s.size 0 n (Nat.zero_add _) (by omega) (by rw [List.drop_zero, hn']; exact hsum)).step fun k hk => ?_
    simp only [toolchestlaw02_LinesFields.l0]
    rw [if_neg (by rw [List.length_map]; exact not_nat_lt (by omega))]
    exact hk
  | succ d ih =>
    intro i n hi hn
    have hlt : i < L.length := by omega
    obtain ⟨h1, h2, h3⟩ := hL L[i] (List.getElem_mem hlt)
    rw [List.drop_eq_getElem_cons hlt, sumL_cons] at hn
    have hr := rd_bs L i hlt
    have hne : ¬ (bs L[i]).toList = ([] : List UInt8) := by rw [Lib.toList_data, bs_toList]; exact h1
    have hle : n + L[i].length ≤ sumL L := by omega
    refine (blank_l1 s L i hlt L[i] rfl h3 h2 (by omega) L[i].length 0 n (Nat.zero_add _) (by omega) (ih (i + 1) (n + L[i].length) (by omega) (by omega))).step fun k hk => ?_
    simp only [toolchestlaw02_LinesFields.l0]
    rw [if_pos (by rw [List.length_map]; exact nat_lt hlt), if_pos (nat_nn i), hr, if_neg hne]
    exact hk

/-- What is still to come, of lines with a byte between. -/
def restJ (c : UInt8) (i : Nat) (L : List (List UInt8)) : List UInt8 := if i = 0 then (L.head?.getD []) ++ L.tail.flatMap (fun x => c :: x) else L.flatMap (fun x => c :: x)
theorem restJ_zero (c : UInt8) (x : List UInt8) (L : List (List UInt8)) : restJ c 0 (x :: L) = x ++ restJ c 1 L := by simp [restJ]
theorem restJ_succ (c : UInt8) (i : Nat) (x : List UInt8) (L : List (List UInt8)) : restJ c (i + 1) (x :: L) = c :: (x ++ restJ c (i + 1 + 1) L) := by simp [restJ]
theorem restJ_split (c : UInt8) (l : List UInt8) : restJ c 0 (splitL (fun b => (b.toNat : Int) == (c.toNat : Int)) l) = l := by
  refine parts_ind (fun b => (b.toNat : Int) == (c.toNat : Int)) (C := fun l => restJ c 0 (splitL (fun b => (b.toNat : Int) == (c.toNat : Int)) l) = l) ?_ ?_ l
  · intro l hl
    have h1 : splitL (fun b => (b.toNat : Int) == (c.toNat : Int)) l = [l] := by unfold splitL; rw [splitL_one _ l hl]; rfl
    rw [h1, restJ_zero]; simp [restJ]
  · intro l d r hl hd ih
    have h1 : splitL (fun b => (b.toNat : Int) == (c.toNat : Int)) l = [l] := by unfold splitL; rw [splitL_one _ l hl]; rfl
    have hdc : d = c := by rw [byte_beq] at hd; exact eq_of_beq hd
    rw [splitL_app _ l r d hd, h1]
    obtain ⟨y, Y, hy⟩ : ∃ y Y, splitL (fun b => (b.toNat : Int) == (c.toNat : Int)) r = y :: Y := by
      cases h : splitL (fun b => (b.toNat : Int) == (c.toNat : Int)) r with
      | nil => exact absurd h (splitL_ne _ _)
      | cons y Y => exact ⟨y, Y, rfl⟩
    rw [hy, restJ_zero] at ih
    rw [hy, List.singleton_append, restJ_zero, restJ_succ, hdc]
    have : restJ c (0 + 1 + 1) Y = restJ c 1 Y := rfl
    rw [this, ih]
def numsL (l : List UInt8) : List Int := l.map fun b => (b.toNat : Int)
theorem numsL_app (a b : List UInt8) : numsL (a ++ b) = numsL a ++ numsL b := by simp [numsL]
theorem numsL_len (a : List UInt8) : (numsL a).length = a.length := by simp [numsL]
theorem bytesOf_bs (x : List UInt8) : bytesOf (bs x) = numsL x := by unfold bytesOf numsL; rw [bs_toList]
theorem strOf_numsL (l : List UInt8) : strOfNums (numsL l) = bs l := by simp [strOfNums, numsL, bs, Function.comp_def]
theorem sep_l4 (s : ByteArray) (c : UInt8) (L : List (List UInt8)) (b : List Int) (i : Nat) (hi : i < L.length) (x : List UInt8) (hx : L[i] = x) (hn : ∀ d ∈ x, d ≠ c) (hz : x.length ≤ 1048576) (hli : i ≤ 2000000) {r : Bool}
    (h : Ev (fun k => toolchestlaw02_LinesFields.l3 k s (c.toNat : Int) (L.map bs) b ((i + 1 : Nat) : Int)) r) :
    ∀ (d j : Nat), j + d = x.length → Ev (fun k => toolchestlaw02_LinesFields.l4 k s (c.toNat : Int) (L.map bs) b (i : Int) (j : Int)) r := by
  have c1 := nat_nn i
  have c2 : (i : Int) < ((L.map bs).length : Int) := by rw [List.length_map]; exact nat_lt hi
  have hr : rdOf ByteArray.empty (L.map bs) (i : Int) = bs x := by rw [rd_bs L i hi, hx]
  have hwi := wrap_one i (by omega)
  have hsz : ((bs x).size : Int) = (x.length : Int) := by rw [bs_size]
  intro d
  induction d with
  | zero =>
    intro j hj
    refine h.step fun k hk => ?_
    simp only [toolchestlaw02_LinesFields.l4]
    rw [if_pos c1, if_pos c2, hr, hsz, if_neg (not_nat_lt (by omega)), hwi]
    exact hk
  | succ d ih =>
    intro j hj
    have hlt : j < x.length := by omega
    have hb := bt_bs x j hlt
    have nc := byte_ne (hn x[j] (List.getElem_mem hlt))
    have hwj := wrap_one j (by omega)
    refine (ih (j + 1) (by omega)).step fun k hk => ?_
    simp only [toolchestlaw02_LinesFields.l4]
    rw [if_pos c1, if_pos c2, hr, hsz, if_pos (nat_lt hlt), if_pos (nat_nn j), hb, if_neg nc, hwj]
    exact hk
theorem room_of {a b c : Nat} (h : a + b ≤ c) (hc : c ≤ 1048576) : a + b < 140737488355328 := by omega
theorem sep_l3 (s : ByteArray) (hs : s.size ≤ 1048576) (c : UInt8) (L : List (List UInt8)) (h0 : 0 < L.length) (hl : L.length ≤ 2000000) (hL : ∀ x ∈ L, x.length ≤ 1048576 ∧ ∀ d ∈ x, d ≠ c) :
    ∀ (d i : Nat) (b : List UInt8), i + d = L.length → b ++ restJ c i (L.drop i) = s.data.toList → Ev (fun k => toolchestlaw02_LinesFields.l3 k s (c.toNat : Int) (L.map bs) (numsL b) (i : Int)) true := by
  have hlen : s.data.toList.length = s.size := (Lib.size_eq s).symm
  intro d
  induction d with
  | zero =>
    intro i b hi hb
    rw [List.drop_eq_nil_of_le (by omega)] at hb
    have hb' : b = s.data.toList := by
      have : restJ c i [] = [] := by unfold restJ; split <;> simp
      rw [this, List.append_nil] at hb; exact hb
    refine Ev.now fun k => ?_
    simp only [toolchestlaw02_LinesFields.l3]
    rw [if_neg (by rw [List.length_map]; exact not_nat_lt (by omega)), if_pos (by rw [List.length_map]; exact nat_lt h0), strOf_numsL, hb', bs_of, beq_self_eq_true]
  | succ d ih =>
    intro i b hi hb
    have hlt : i < L.length := by omega
    obtain ⟨h2, h3⟩ := hL L[i] (List.getElem_mem hlt)
    have hr := rd_bs L i hlt
    have c2 : (i : Int) < ((L.map bs).length : Int) := by rw [List.length_map]; exact nat_lt hlt
    rw [List.drop_eq_getElem_cons hlt] at hb
    cases i with
    | zero =>
      rw [restJ_zero, ← List.append_assoc] at hb
      have hroom : (numsL b).length + (bs L[0]).size < 140737488355328 := by
        rw [numsL_len, bs_size]
        refine room_of (c := s.size) ?_ hs
        rw [← hlen, ← hb]; simp only [List.length_append]; omega
      have e1 : numsL b ++ bytesOf (bs L[0]) = numsL (b ++ L[0]) := by rw [bytesOf_bs, numsL_app]
      refine ((sep_l4 s c L _ 0 hlt L[0] rfl h3 h2 (by omega) (ih 1 (b ++ L[0]) (by omega) hb) L[0].length 0 (Nat.zero_add _)).step (G := fun k => toolchestlaw02_LinesFields.j5 k s (c.toNat : Int) (L.map bs) (numsL b) ((0 : Nat) : Int)) fun k hk => ?_).step fun k hk => ?_
      · simp only [toolchestlaw02_LinesFields.j5]
        rw [if_pos (nat_nn 0), if_pos c2, hr, if_pos hroom, e1]
        exact hk
      · simp only [toolchestlaw02_LinesFields.l3]
        rw [if_pos c2, if_neg (by decide)]
        exact hk
    | succ i =>
      rw [restJ_succ] at hb
      have hb2 : (b ++ [c] ++ L[i + 1]) ++ restJ c (i + 1 + 1) (L.drop (i + 1 + 1)) = s.data.toList := by rw [← hb]; simp
      have hroom : (numsL (b ++ [c])).length + (bs L[i + 1]).size < 140737488355328 := by
        rw [numsL_len, bs_size]
        refine room_of (c := s.size) ?_ hs
        rw [← hlen, ← hb2]; simp only [List.length_append]; omega
      have hroom1 : (numsL b).length < 140737488355328 := by
        have : (numsL (b ++ [c])).length = (numsL b).length + 1 := by rw [numsL_len, numsL_len, List.length_append]; rfl
        omega
      have e0 : numsL b ++ [(c.toNat : Int)] = numsL (b ++ [c]) := by rw [numsL_app]; rfl
      have e1 : numsL (b ++ [c]) ++ bytesOf (bs L[i + 1]) = numsL (b ++ [c] ++ L[i + 1]) := by rw [bytesOf_bs, ← numsL_app]
      refine ((sep_l4 s c L _ (i + 1) hlt L[i + 1] rfl h3 h2 (by omega) (ih (i + 1 + 1) (b ++ [c] ++ L[i + 1]) (by omega) hb2) L[i + 1].length 0 (Nat.zero_add _)).step (G := fun k => toolchestlaw02_LinesFields.j5 k s (c.toNat : Int) (L.map bs) (numsL (b ++ [c])) ((i + 1 : Nat) : Int)) fun k hk => ?_).step fun k hk => ?_
      · simp only [toolchestlaw02_LinesFields.j5]
        rw [if_pos (nat_nn (i + 1)), if_pos c2, hr, if_pos hroom, e1]
        exact hk
      · simp only [toolchestlaw02_LinesFields.l3]
        rw [if_pos c2, if_pos (by omega), if_pos hroom1, e0]
        exact hk
theorem byte_of (a : Int) (h : (Lit.int .u8 a).wf = true) : ∃ c : UInt8, a = (c.toNat : Int) := by
  have h2 : 0 ≤ a ∧ a ≤ 255 := by
    simp [Lit.wf] at h
    exact ⟨h.1, h.2⟩
  refine ⟨UInt8.ofNat a.toNat, ?_⟩
  rw [UInt8.toNat_ofNat_of_lt' (by show a.toNat < 256; omega)]
  omega
theorem LinesFields : toolchestlaw02_LinesFields.Pure := by
  intro a0 a1 h0 hwf
  by_cases hb : a0.size ≤ 100000
  · obtain ⟨c, rfl⟩ := byte_of a1 hwf
    have hd : ¬ (decide ((a0.size : Int) > 100000)) = true := by simp; omega
    have hlen : a0.data.toList.length = a0.size := (Lib.size_eq a0).symm
    suffices h : Ev (fun k => (lines_Fields.f a0 (c.toNat : Int)).bind fun t => (if (c.toNat : Int) = 0 then (toolchestlaw02_LinesFields.l0 k a0 t 0 0) else (toolchestlaw02_LinesFields.l3 k a0 (c.toNat : Int) t ([] : List Int) 0))) true by
      obtain ⟨k0, hk⟩ := h
      have hk' := hk (max k0 40) (by omega)
      refine ⟨max k0 40 + 1, ?_⟩
      unfold toolchestlaw02_LinesFields.f
      rw [alive_ge _ (by omega), Option.bind_some, if_pos rfl]
      simp only [toolchestlaw02_LinesFields.j0]
      rw [if_neg hd]
      exact hk'
    unfold lines_Fields.f
    rw [if_pos (by omega)]
    by_cases hc : (c.toNat : Int) = 0
    · have e1 : fieldsOf a0 (c.toNat : Int) = ((splitL blankC a0.data.toList).filter (fun x => !x.isEmpty)).map bs := by
        unfold fieldsOf; rw [if_pos hc, runsOf_spl]; rfl
      have hw := words_sum a0.data.toList
      have hlw : ((splitL blankC a0.data.toList).filter (fun x => !x.isEmpty)).length ≤ 100001 := Nat.le_trans (List.length_filter_le _ _) (Nat.le_trans (splitL_len _ _) (by omega))
      obtain ⟨k0, hk⟩ := blank_l0 a0 (by omega) ((splitL blankC a0.data.toList).filter (fun x => !x.isEmpty)) (by omega)
        (fun x hx => by
          obtain ⟨hx1, hx2⟩ := List.mem_filter.1 hx
          refine ⟨fun e => by subst e; simp at hx2, ?_, splitL_none _ _ x hx1⟩
          have := splitL_le _ _ x hx1
          omega) (by rw [hw, hlen]) _ 0 0 (Nat.zero_add _) (by rw [List.drop_zero, Nat.zero_add])
      refine ⟨k0, fun k h => ?_⟩
      show Option.bind (some _) _ = _
      rw [Option.bind_some, if_pos hc, e1]
      exact hk k h
    · have e1 : fieldsOf a0 (c.toNat : Int) = (splitL (fun b => (b.toNat : Int) == (c.toNat : Int)) a0.data.toList).map bs := by
        unfold fieldsOf; rw [if_neg hc, partsOf_spl]
      have hlw : (splitL (fun b => (b.toNat : Int) == (c.toNat : Int)) a0.data.toList).length ≤ 100001 := Nat.le_trans (splitL_len _ _) (by omega)
      obtain ⟨k0, hk⟩ := sep_l3 a0 (by omega) c (splitL (fun b => (b.toNat : Int) == (c.toNat : Int)) a0.data.toList) (List.length_pos_iff.2 (splitL_ne _ _)) (by omega)
        (fun x hx => by
          refine ⟨?_, fun d hd e => ?_⟩
          · have := splitL_le _ _ x hx
            omega
          · have := splitL_none _ _ x hx d hd
            rw [byte_beq, e] at this
            simp at this) _ 0 [] (Nat.zero_add _) (by rw [List.drop_zero, List.nil_append, restJ_split])
      refine ⟨k0, fun k h => ?_⟩
      show Option.bind (some _) _ = _
      rw [Option.bind_some, if_neg hc, e1]
      exact hk k h
  · refine ⟨41, ?_⟩
    unfold toolchestlaw02_LinesFields.f
    rw [alive_ge 41 (by decide), Option.bind_some, if_pos rfl]
    simp only [toolchestlaw02_LinesFields.j0]
    rw [if_pos (by simp; omega), alive_ge 40 (by decide), Option.bind_some]
end Go.Proofs.Ytgbhcanfjmefiaa.Pure
