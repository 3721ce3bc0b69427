/- keys.Key: the part of a line by which it compares. -/
import Derived.Test.YtbndinaiclkajaaDoorKEnds
set_option linter.unusedVariables false
set_option linter.unusedSimpArgs false
namespace Go.Proofs.YtbndinaiclkajaaDoor.K
open Go.RowKit Go.Shelf Go.BigFrame Go.Proofs.YtbndinaiclkajaaDoor.H

attribute [local go_sem] Oper.semAt_some

theorem beginOf_snoc (pre : List (Nat × Nat)) (x : Nat × Nat) (f : Int) (z : Nat) (hf : 1 ≤ f) : beginOf (pre ++ [x]) f z = if f = (pre.length : Int) + 1 then x.1 else beginOf pre f z := by
  unfold beginOf nth
  rw [if_pos hf]
  split
  · rename_i h
    rw [show (f - 1).toNat = pre.length by omega, List.getElem?_append_right (Nat.le_refl _), Nat.sub_self]; rfl
  · rename_i h
    by_cases hk : (f - 1).toNat < pre.length
    · rw [List.getElem?_append_left hk]
    · rw [List.getElem?_eq_none (by simp; omega), List.getElem?_eq_none (by omega)]
theorem nth_prefix {pre all : List (Nat × Nat)} (h : pre <+: all) (k : Int) (hk : k ≤ pre.length) : nth all k = nth pre k := by
  unfold nth
  split
  · obtain ⟨r, rfl⟩ := h
    rw [List.getElem?_append_left (by omega)]
  · rfl
theorem endOf_none (ps : List (Nat × Nat)) (t : Int) (z : Nat) (h : t < 1 ∨ (ps.length : Int) < t) : endOf ps t z = z := by
  unfold endOf nth
  split
  · rw [List.getElem?_eq_none (by omega)]; rfl
  · rfl
theorem endOf_last (pre : List (Nat × Nat)) (x : Nat × Nat) (t : Int) (z : Nat) (h : t = (pre.length : Int) + 1) : endOf (pre ++ [x]) t z = x.2 := by
  unfold endOf nth
  rw [if_pos (by omega), show (t - 1).toNat = pre.length by omega, List.getElem?_append_right (Nat.le_refl _), Nat.sub_self]; rfl
theorem ends_bound (c : UInt8) (l : List UInt8) : ∀ q ∈ endsOf c l, q.1 ≤ l.length ∧ q.2 ≤ l.length := by
  have sep : ∀ (l : List UInt8) a p, a ≤ p → ∀ q ∈ endsSep c l a p, q.1 ≤ p + l.length ∧ q.2 ≤ p + l.length := by
    intro l
    induction l with
    | nil => intro a p h q hq; simp [endsSep] at hq; subst hq; simp only [List.length_nil]; omega
    | cons x r ih =>
      intro a p h q hq
      simp only [endsSep] at hq
      simp only [List.length_cons]
      split at hq
      · rcases List.mem_cons.1 hq with rfl | h'
        · simp only; omega
        · have := ih _ _ (Nat.le_refl _) q h'; omega
      · have := ih _ _ (by omega) q hq; omega
  have bl : ∀ (l : List UInt8) a p b, a ≤ p → ∀ q ∈ endsBl l a p b, q.1 ≤ p + l.length ∧ q.2 ≤ p + l.length := by
    intro l
    induction l with
    | nil => intro a p b h q hq; simp only [endsBl] at hq; split at hq <;> simp at hq; subst hq; simp only [List.length_nil]; omega
    | cons x r ih =>
      intro a p b h q hq
      simp only [List.length_cons]
      cases b
      · have := ih _ _ _ (by omega) q hq; omega
      · simp only [endsBl] at hq
        split at hq
        · rcases List.mem_cons.1 hq with rfl | h'
          · simp only; omega
          · have := ih _ _ _ (by omega) q h'; omega
        · have := ih _ _ _ (by omega) q hq; omega
  intro q hq
  unfold endsOf at hq
  split at hq
  · have := bl _ _ _ _ (Nat.le_refl _) q hq; omega
  · have := sep _ _ _ (Nat.le_refl _) q hq; omega
theorem nth_mem {ps : List (Nat × Nat)} {k : Int} {q : Nat × Nat} (h : nth ps k = some q) : q ∈ ps := by
  unfold nth at h
  split at h
  · exact List.mem_of_getElem? h
  · cases h
theorem beginOf_le (c : UInt8) (l : List UInt8) (f : Int) : beginOf (endsOf c l) f l.length ≤ l.length := by
  unfold beginOf
  cases h : nth (endsOf c l) f with
  | none => exact Nat.le_refl _
  | some q => exact (ends_bound c l q (nth_mem h)).1
theorem endOf_le (c : UInt8) (l : List UInt8) (t : Int) : endOf (endsOf c l) t l.length ≤ l.length := by
  unfold endOf
  cases h : nth (endsOf c l) t with
  | none => exact Nat.le_refl _
  | some q => exact (ends_bound c l q (nth_mem h)).2
theorem extract_cut (s : ByteArray) (b e : Nat) : s.extract b (max b e) = bs (cutL b e s.data.toList) := by
  rw [extract_bs]; rfl

/-- An order, boxed. -/
def ordObj (nu fo bl re : Bool) (f t : Int) (c : UInt8) : Obj := .cells #[.bool nu, .bool fo, .bool bl, .bool re, .int .i64 f, .int .i64 t, .int .u8 (c.toNat : Int)] 23 (0, 0)
theorem ord_cells {W : World} {b : Nat} {nu fo bl re : Bool} {f t : Int} {c : UInt8} (h : W.heap[b]? = some (ordObj nu fo bl re f t c)) :
    W.cell? ⟨b, 4, none⟩ = some (.int .i64 f) ∧ W.cell? ⟨b, 5, none⟩ = some (.int .i64 t) ∧ W.cell? ⟨b, 6, none⟩ = some (.int .u8 (c.toNat : Int)) := by
  unfold ordObj at h
  exact ⟨by rw [Lib.cell_of_heap h]; rfl, by rw [Lib.cell_of_heap h]; rfl, by rw [Lib.cell_of_heap h]; rfl⟩
theorem ord_own {β : Type} (b : Nat) (nu fo bl re : Bool) (f t : Int) (c : UInt8) : Own (fun (_ : β) W => W.heap[b]? = some (ordObj nu fo bl re f t c)) := by
  intro q A B row h hg hr
  refine (hg.block b (Array.getElem?_eq_some_iff.1 h).1 (fun e => ?_)).trans h
  obtain ⟨o, ho, hc⟩ := hr _ e.symm
  rw [h] at ho
  cases ho
  cases hc
set_option maxHeartbeats 4000000 in
set_option maxRecDepth 100000 in
theorem key_in (F : Fence) (n : Nat) (h12 : F.fn 12) (h17 : F.fn 17) (h25 : F.fn 25) (h37 : F.fn 37) (h38 : F.fn 38) (h39 : F.fn 39) (h40 : F.fn 40) (hro : F.round = none) (hn : 4 ≤ n)
    (nu fo bl re : Bool) (f t : Int) (c : UInt8) (s : ByteArray) (hs : s.size ≤ 4294967280) (w : World)
    (hCk : ∀ m w, CallsIn F m Tryd.prog 17 #[.agg #[.bool nu, .bool fo, .bool bl, .bool re, .int .i64 f, .int .i64 t, .int .u8 (c.toNat : Int)]] w fun e w' => e = .returned (.bool (checkO f t c)) ∧ Below w.heap.size w w')
    (hIB : ∀ m x w, CallsIn F m Tryd.prog 38 #[.string x, .int .u8 (c.toNat : Int)] w fun e w' => e = .returned (.int .i64 (Lib.indexByte x.data.toList c)) ∧ w' = w)
    (hTL : ∀ m x w, CallsIn F m Tryd.prog 39 #[.string x, .string ⟨#[32, 9]⟩] w fun e w' => e = .returned (.string (bs (x.data.toList.dropWhile blankC))) ∧ Below w.heap.size w w')
    (hIA : ∀ m x w, x.size ≤ 4294967280 → CallsIn F m Tryd.prog 40 #[.string x, .string ⟨#[32, 9]⟩] w fun e w' => e = .returned (.int .i64 (Lib.indexAny x.data.toList [32, 9])) ∧ Below w.heap.size w w') :
    CallsIn F n Tryd.prog 12 #[.agg #[.bool nu, .bool fo, .bool bl, .bool re, .int .i64 f, .int .i64 t, .int .u8 (c.toNat : Int)], .string s] w fun e W' => e = .returned (.string (bs (keyO f t c s.data.toList))) ∧ Below w.heap.size w W' := by
  have h1 : 1 ≤ n := by omega
  have HLen := Lib.hid (show s.data.toList.length = s.size from (Lib.size_eq s).symm)
  refine callsIn_of_wp_marks Tryd.func12 rfl h12 ?_ hro
  simp only [Tryd.ntmps12, List.size_toArray, List.length_cons, List.length_nil, Nat.reduceAdd, Nat.reduceSub, Array.replicate_succ, Array.replicate_zero, List.push_toArray, List.append_toArray, List.nil_append, List.cons_append]
  gi_wp2_with fail
  refine (hCk _ _).mono ?_
  rintro e w1 ⟨rfl, hb1⟩
  cases hck : checkO f t c with
  | false =>
    have HK := Lib.hid (show bs (keyO f t c s.data.toList) = ⟨#[]⟩ by unfold keyO; rw [hck]; rfl)
    have HB := Lib.hid hb1
    clear hck hb1
    gi_wp2
    exact ⟨_, results_tmp rfl _ _ _, by rw [HK.out]; rfl, bth (bal (Below.refl _ _) _) HB.out⟩
  | true =>
    have hob : w1.heap[w.heap.size]? = some (ordObj nu fo bl re f t c) := (hb1.block w.heap.size (by simp)).trans (World.alloc_heap_new _ _)
    have HB := Lib.hid (bth (bal (Below.refl _ _) _) hb1)
    have hz1 := hb1.size
    rw [World.size_alloc] at hz1
    clear hb1
    obtain ⟨c4, c5, c6⟩ := ord_cells hob
    have hck2 := hck
    unfold checkO at hck2
    rw [decide_eq_true_eq] at hck2
    obtain ⟨q1, q2, q3, q4⟩ := hck2
    have Hck := Lib.hid hck
    clear hck
    by_cases hf0 : f = 0
    · have HK := Lib.hid (show bs (keyO f t c s.data.toList) = s by unfold keyO; rw [if_pos Hck.out, if_pos hf0, bs_of])
      subst hf0
      gi_wp2
      exact ⟨_, results_tmp rfl _ _ _, by rw [HK.out]; rfl, HB.out⟩
    · have hfz : (f == 0) = false := beq_eq_false_iff_ne.2 hf0
      have hf1 : 1 ≤ f := by omega
      have HK := Lib.hid (show bs (keyO f t c s.data.toList) = bs (keyP (endsOf c s.data.toList) f t s.data.toList) by unfold keyO; rw [if_pos Hck.out, if_neg hf0])
      have HT := Lib.hid (show t = 0 ∨ f ≤ t by omega)
      clear hf0 q4
      have hlw : w.heap.size < w1.heap.size := by omega
      obtain ⟨W3, hW3⟩ : ∃ W3, (((w1.alloc (Obj.cells #[Value.int IntKind.i64 0] 3)).alloc (Obj.cells #[Value.int IntKind.i64 (s.size : Int)] 3)).alloc (Obj.cells #[Value.int IntKind.i64 (s.size : Int)] 3)) = W3 := ⟨_, rfl⟩
      have hzW : W3.heap.size = w1.heap.size + 3 := by rw [← hW3]; simp
      have hob3 : W3.heap[w.heap.size]? = some (ordObj nu fo bl re f t c) := by rw [← hW3]; exact (Lib.alloc_old _ _ _ (by simp; omega)).trans ((Lib.alloc_old _ _ _ (by simp; omega)).trans ((Lib.alloc_old _ _ _ hlw).trans hob))
      have b0 : Boxed W3 w1.heap.size 3 (.int .i64 0) := by rw [← hW3]; exact (((Boxed.new w1 3 _).alloc _).alloc _)
      have b1 : Boxed W3 (w1.heap.size + 1) 3 (.int .i64 (s.size : Int)) := by
        rw [← hW3]
        have := Boxed.new (w1.alloc (Obj.cells #[Value.int IntKind.i64 0] 3)) 3 (.int .i64 (s.size : Int))
        rw [World.size_alloc] at this
        exact this.alloc _
      have b2 : Boxed W3 (w1.heap.size + 1 + 1) 3 (.int .i64 (s.size : Int)) := by
        rw [← hW3]
        have := Boxed.new ((w1.alloc (Obj.cells #[Value.int IntKind.i64 0] 3)).alloc (Obj.cells #[Value.int IntKind.i64 (s.size : Int)] 3)) 3 (.int .i64 (s.size : Int))
        rw [World.size_alloc, World.size_alloc] at this
        exact this
      have c6' : W3.cell? ⟨w.heap.size, 6, none⟩ = some (.int .u8 (c.toNat : Int)) := (ord_cells hob3).2.2
      have hB3 : Below w.heap.size w W3 := by rw [← hW3]; exact bal (bal (bal HB.out _) _) _
      have HX := Lib.hid (And.intro hob3 (And.intro b0 (And.intro b1 (And.intro b2 hB3))))
      clear hob3 b0 b1 b2 hB3 hob
      gi_wp2_with fail
      refine (ends_in F _ h25 hro _ _ _).mono ?_
      rintro e w2 ⟨rfl, rfl⟩
      clear c6' c6 c4 c5
      obtain ⟨hob3, b0, b1, b2, hB3⟩ := HX.out
      obtain ⟨W0, hW0⟩ : ∃ W0, ((W3.alloc (.cells #[.string s] 9)).alloc (.cells #[.int .u8 (c.toNat : Int)] 5)) = W0 := ⟨_, rfl⟩
      have hz0 : W0.heap.size = w1.heap.size + 5 := by rw [← hW0]; simp; omega
      have hob0 : W0.heap[w.heap.size]? = some (ordObj nu fo bl re f t c) := by rw [← hW0]; exact (Lib.alloc_old _ _ _ (by simp; omega)).trans ((Lib.alloc_old _ _ _ (by omega)).trans hob3)
      have b0' : Boxed W0 w1.heap.size 3 (.int .i64 0) := by rw [← hW0]; exact (b0.alloc _).alloc _
      have b1' : Boxed W0 (w1.heap.size + 1) 3 (.int .i64 (s.size : Int)) := by rw [← hW0]; exact (b1.alloc _).alloc _
      have b2' : Boxed W0 (w1.heap.size + 1 + 1) 3 (.int .i64 (s.size : Int)) := by rw [← hW0]; exact (b2.alloc _).alloc _
      have cS : W0.cell? ⟨W3.heap.size, 0, none⟩ = some (.string s) := by rw [← hW0]; exact ((Boxed.new W3 9 _).alloc _).cell
      have cC : W0.cell? ⟨W3.heap.size + 1, 0, none⟩ = some (.int .u8 (c.toNat : Int)) := by
        rw [← hW0]
        have := Boxed.new (W3.alloc (.cells #[.string s] 9)) 5 (.int .u8 (c.toNat : Int))
        rw [World.size_alloc] at this
        exact this.cell
      have hB0 : Below w.heap.size w W0 := by rw [← hW0]; exact bal (bal hB3 _) _
      rw [hW0]
      rw [hzW] at cS cC ⊢
      clear hob3 b0 b1 b2 hB3 HX hW0 hW3
      gi_wp2
      refine wpIn_rangeFunc_ownG hro h1 (gf := 37) (lb := #[.pointer (some ⟨w1.heap.size + 3 + 1, 0, none⟩), .pointer (some ⟨w1.heap.size + 3, 0, none⟩)]) rfl h37 (enters_of Tryd.func37 (by kernel_rfl) rfl)
        (ends_stops F (n - 1) h37 h38 h39 h40 hro (by omega) (w1.heap.size + 3 + 1) (w1.heap.size + 3) s c hs (hIB _) (hTL _) (hIA _) W0 cC cS) Keep2.trans (fun W l o o' hl _ _ _ => ⟨World.putObj_heap_other (by omega), World.putObj_heap_other (by omega)⟩) (Below.refl _ _) (fun _ => rfl)
        (fun pre W => (Boxed W w1.heap.size 3 (.int .i64 (pre.length : Int)) ∧ Boxed W (w1.heap.size + 1) 3 (.int .i64 (beginOf pre f s.size : Int)) ∧ Boxed W (w1.heap.size + 1 + 1) 3 (.int .i64 (s.size : Int))) ∧
          (W.heap[w.heap.size]? = some (ordObj nu fo bl re f t c) ∧ (t < 1 ∨ (pre.length : Int) < t)) ∧ (Below w.heap.size w W ∧ w1.heap.size + 5 ≤ W.heap.size))
        (fun cd pre W => cd = .exit 1 ∧ (Boxed W (w1.heap.size + 1) 3 (.int .i64 (beginOf pre f s.size : Int)) ∧ Boxed W (w1.heap.size + 1 + 1) 3 (.int .i64 (endOf pre t s.size : Int))) ∧ ((pre.length : Int) = t ∧ 1 ≤ t ∧ Below w.heap.size w W))
        ?hI ?hIx ⟨⟨b0', by simpa [beginOf, nth] using b1', b2'⟩, ⟨hob0, by have := HT.out; simp; omega⟩, hB0, by omega⟩
        (fun x => { tmps := #[.agg #[.bool nu, .bool fo, .bool bl, .bool re, .int .i64 f, .int .i64 t, .int .u8 (c.toNat : Int)], .string s, .pointer (some ⟨w.heap.size, 0, none⟩), undef, .string ⟨#[]⟩, .pointer (some ⟨w1.heap.size, 0, none⟩), .pointer (some ⟨w1.heap.size + 1, 0, none⟩), .pointer (some ⟨w1.heap.size + 1 + 1, 0, none⟩), .int .i64 (x.1 : Int), .int .i64 (x.2 : Int), .bool false,
          .agg #[.bool nu, .bool fo, .bool bl, .bool re, .int .i64 f, .int .i64 t, .int .u8 (c.toNat : Int)], .bool true, .bool false, .bool false, .pointer (some ⟨w.heap.size, 4, none⟩), .int .i64 f, .bool false, undef, .string s, .int .i64 (s.size : Int), .string s, .int .i64 (s.size : Int), .string s, .pointer (some ⟨w.heap.size, 6, none⟩), .int .u8 (c.toNat : Int),
          .func (.func 37) #[] #[.pointer (some ⟨w1.heap.size + 3 + 1, 0, none⟩), .pointer (some ⟨w1.heap.size + 3, 0, none⟩)], .int .i64 (x.1 : Int), .int .i64 (x.2 : Int), undef, undef, undef, undef, undef, undef, undef, undef, undef, undef, undef, undef, undef, undef, undef, undef, undef, undef], defers := [] }) ?assign ?body ?done ?stop
      case hI =>
        refine OwnFrom.and (OwnFrom.and (Own.from (boxed_own _ _ (fun pre : List (Nat × Nat) => Value.int .i64 (pre.length : Int))) _) (OwnFrom.and (Own.from (boxed_own _ _ (fun pre : List (Nat × Nat) => Value.int .i64 (beginOf pre f s.size : Int))) _) (Own.from (boxed_own _ _ (fun pre : List (Nat × Nat) => Value.int .i64 (s.size : Int))) _)))
          (OwnFrom.and (OwnFrom.and (Own.from (ord_own _ nu fo bl re f t c) _) (ownFrom_pure _ _)) (OwnFrom.and (ownFrom_below (Nat.le_refl _) (by omega)) ?_))
        exact fun q A B row hq hg _ => Nat.le_trans hq hg.size
      case hIx =>
        intro cd
        exact OwnFrom.and (ownFrom_pure _ _) (OwnFrom.and (OwnFrom.and (Own.from (boxed_own _ _ (fun pre : List (Nat × Nat) => Value.int .i64 (beginOf pre f s.size : Int))) _) (Own.from (boxed_own _ _ (fun pre : List (Nat × Nat) => Value.int .i64 (endOf pre t s.size : Int))) _))
          (OwnFrom.and (ownFrom_pure _ _) (OwnFrom.and (ownFrom_pure _ (fun _ => 1 ≤ t)) (ownFrom_below (Nat.le_refl _) (by omega)))))
      case assign =>
        intro l x W K hK
        gi_wp2
        exact hK
      case body =>
        rintro l pre x W ⟨⟨x0, x1, x2⟩, ⟨x3, x4⟩, x5, x6⟩ hlt
        have d0 := x0.cell; have d1 := x1.cell; have d2 := x2.cell
        have e0 := x0.frozen; have e1 := x1.frozen; have e2 := x2.frozen
        obtain ⟨d4, d5, _⟩ := ord_cells x3
        have hB1 : ∀ (V : World) (u : Value), Below w.heap.size w V → Below w.heap.size w (V.setCell ⟨w1.heap.size, 0, none⟩ u) := fun _ u h => h.setCell (p := ⟨w1.heap.size, 0, none⟩) (show w.heap.size ≤ w1.heap.size by omega) u
        have hB2 : ∀ (V : World) (u : Value), Below w.heap.size w V → Below w.heap.size w (V.setCell ⟨w1.heap.size + 1, 0, none⟩ u) := fun _ u h => h.setCell (p := ⟨w1.heap.size + 1, 0, none⟩) (show w.heap.size ≤ w1.heap.size + 1 by omega) u
        have hB3 : ∀ (V : World) (u : Value), Below w.heap.size w V → Below w.heap.size w (V.setCell ⟨w1.heap.size + 1 + 1, 0, none⟩ u) := fun _ u h => h.setCell (p := ⟨w1.heap.size + 1 + 1, 0, none⟩) (show w.heap.size ≤ w1.heap.size + 1 + 1 by omega) u
        have HB1 := Lib.hid hB1; have HB2 := Lib.hid hB2; have HB3 := Lib.hid hB3
        clear hB1 hB2 hB3
        have hpl : ((pre ++ [x]).length : Int) = (pre.length : Int) + 1 := by simp
        have HPL := Lib.hid hpl
        clear hpl
        have hbs := Lib.hid (beginOf_snoc pre x f s.size hf1)
        have hen := Lib.hid (endOf_last pre x t s.size)
        have HX2 := Lib.hid (And.intro x0 (And.intro x1 (And.intro x2 (And.intro x3 (And.intro x4 (And.intro x5 x6))))))
        clear x0 x1 x2 x3 x4 x5 x6
        by_cases hfe : f = (pre.length : Int) + 1
        · have hfb : (((pre.length : Int) + 1) == f) = true := beq_iff_eq.2 hfe.symm
          have hbn := Lib.hid (show beginOf (pre ++ [x]) f s.size = x.1 by rw [hbs.out, if_pos hfe])
          by_cases hte : t = (pre.length : Int) + 1
          · have htb : (((pre.length : Int) + 1) == t) = true := beq_iff_eq.2 hte.symm
            have hln := Lib.hid (show ((pre ++ [x]).length : Int) = t ∧ 1 ≤ t by rw [HPL.out]; omega)
            have hee := Lib.hid (hen.out hte)
            clear hfe hte
            gi_wp2
            obtain ⟨x0, x1, x2, x3, x4, x5, x6⟩ := HX2.out
            refine ⟨(((KeepsOthers.setCell _ _ _).trans (KeepsOthers.setCell _ _ _)).trans (KeepsOthers.setCell _ _ _)).from _, rfl, ⟨?_, ?_⟩, hln.out.1, hln.out.2, HB3.out _ _ (HB2.out _ _ (HB1.out _ _ x5))⟩
            · rw [hbn.out]; exact ((x1.other (by omega) _).set _).other (by omega) _
            · rw [hee.out]; exact ((x2.other (by omega) _).other (by omega) _).set _
          · have htb : (((pre.length : Int) + 1) == t) = false := beq_eq_false_iff_ne.2 (fun e => hte e.symm)
            have HTE := Lib.hid hte
            clear hfe hte
            gi_wp2
            obtain ⟨x0, x1, x2, x3, x4, x5, x6⟩ := HX2.out
            refine ⟨((KeepsOthers.setCell _ _ _).trans (KeepsOthers.setCell _ _ _)).from _, ⟨?_, ?_⟩, ⟨?_, ?_, ?_⟩, ⟨?_, ?_⟩, HB2.out _ _ (HB1.out _ _ x5), ?_⟩
            · rw [Below.heap_setCell _ _ _ _ (show w1.heap.size + 3 + 1 ≠ w1.heap.size + 1 by omega), Below.heap_setCell _ _ _ _ (show w1.heap.size + 3 + 1 ≠ w1.heap.size by omega)]
            · rw [Below.heap_setCell _ _ _ _ (show w1.heap.size + 3 ≠ w1.heap.size + 1 by omega), Below.heap_setCell _ _ _ _ (show w1.heap.size + 3 ≠ w1.heap.size by omega)]
            · rw [HPL.out]; exact (x0.set _).other (by omega) _
            · rw [hbn.out]; exact (x1.other (by omega) _).set _
            · exact (x2.other (by omega) _).other (by omega) _
            · rw [Below.heap_setCell _ _ _ _ (show w.heap.size ≠ w1.heap.size + 1 by omega), Below.heap_setCell _ _ _ _ (show w.heap.size ≠ w1.heap.size by omega)]; exact x3
            · rw [HPL.out]; have := HTE.out; omega
            · simpa using x6
        · have hfb : (((pre.length : Int) + 1) == f) = false := beq_eq_false_iff_ne.2 (fun e => hfe e.symm)
          have hbn := Lib.hid (show beginOf (pre ++ [x]) f s.size = beginOf pre f s.size by rw [hbs.out, if_neg hfe])
          by_cases hte : t = (pre.length : Int) + 1
          · have htb : (((pre.length : Int) + 1) == t) = true := beq_iff_eq.2 hte.symm
            have hln := Lib.hid (show ((pre ++ [x]).length : Int) = t ∧ 1 ≤ t by rw [HPL.out]; omega)
            have hee := Lib.hid (hen.out hte)
            clear hfe hte
            gi_wp2
            obtain ⟨x0, x1, x2, x3, x4, x5, x6⟩ := HX2.out
            refine ⟨((KeepsOthers.setCell _ _ _).trans (KeepsOthers.setCell _ _ _)).from _, rfl, ⟨?_, ?_⟩, hln.out.1, hln.out.2, HB3.out _ _ (HB1.out _ _ x5)⟩
            · rw [hbn.out]; exact (x1.other (by omega) _).other (by omega) _
            · rw [hee.out]; exact (x2.other (by omega) _).set _
          · have htb : (((pre.length : Int) + 1) == t) = false := beq_eq_false_iff_ne.2 (fun e => hte e.symm)
            have HTE := Lib.hid hte
            clear hfe hte
            gi_wp2
            obtain ⟨x0, x1, x2, x3, x4, x5, x6⟩ := HX2.out
            refine ⟨(KeepsOthers.setCell _ _ _).from _, ⟨?_, ?_⟩, ⟨?_, ?_, ?_⟩, ⟨?_, ?_⟩, HB1.out _ _ x5, ?_⟩
            · rw [Below.heap_setCell _ _ _ _ (show w1.heap.size + 3 + 1 ≠ w1.heap.size by omega)]
            · rw [Below.heap_setCell _ _ _ _ (show w1.heap.size + 3 ≠ w1.heap.size by omega)]
            · rw [HPL.out]; exact x0.set _
            · rw [hbn.out]; exact x1.other (by omega) _
            · exact x2.other (by omega) _
            · rw [Below.heap_setCell _ _ _ _ (show w.heap.size ≠ w1.heap.size by omega)]; exact x3
            · rw [HPL.out]; have := HTE.out; omega
            · simpa using x6
      case done =>
        rintro D ys W hD rfl ⟨⟨x0, x1, x2⟩, ⟨x3, x4⟩, x5, x6⟩ hK
        have d1 := x1.cell; have d2 := x2.cell
        have hble := beginOf_le c s.data.toList f
        rw [HLen.out] at hble
        have hek : endOf (endsOf c s.data.toList) t s.size = s.size := endOf_none _ _ _ x4
        have hkey := Lib.hid (show s.extract (beginOf (endsOf c s.data.toList) f s.size) (max (beginOf (endsOf c s.data.toList) f s.size : Int) (s.size : Int)).toNat = bs (keyO f t c s.data.toList) by
          rw [HK.out]; unfold keyP; rw [HLen.out, hek, ← extract_cut]; congr 1; omega)
        have HX3 := Lib.hid (And.intro x5 hK)
        clear x0 x1 x2 x3 x4 x5 hK hek
        generalize beginOf (endsOf c s.data.toList) f s.size = b at *
        gi_wp2
        obtain ⟨x5, hK⟩ := HX3.out
        refine ⟨by simp, .inl ⟨_, _, rfl, run_takeDeferred hK, ?_⟩⟩
        exact ⟨_, results_tmp rfl _ _ _, by rw [← hkey.out]; rfl, x5.trans (belowK_b (w := w) (Nat.le_refl _) W D _ _ (by omega) hK rfl rfl)⟩
      case stop =>
        rintro D cd pre W hD hpre ⟨rfl, ⟨x1, x2⟩, hln, ht1, x5⟩ hK
        have d1 := x1.cell; have d2 := x2.cell
        have hble := beginOf_le c s.data.toList f
        have hele := endOf_le c s.data.toList t
        rw [HLen.out] at hble hele
        have hft : f ≤ (pre.length : Int) := by have := HT.out; omega
        have hbe : beginOf pre f s.size = beginOf (endsOf c s.data.toList) f s.size := by unfold beginOf; rw [nth_prefix hpre f hft]
        have hee : endOf pre t s.size = endOf (endsOf c s.data.toList) t s.size := by unfold endOf; rw [nth_prefix hpre t (by omega)]
        have hkey := Lib.hid (show s.extract (beginOf (endsOf c s.data.toList) f s.size) (max (beginOf (endsOf c s.data.toList) f s.size : Int) (endOf (endsOf c s.data.toList) t s.size : Int)).toNat = bs (keyO f t c s.data.toList) by
          rw [HK.out]; unfold keyP; rw [HLen.out, ← extract_cut]; congr 1; omega)
        rw [hbe] at d1
        rw [hee] at d2
        have HX3 := Lib.hid (And.intro x5 hK)
        clear x1 x2 x5 hK hbe hee hln
        generalize beginOf (endsOf c s.data.toList) f s.size = b at *
        generalize endOf (endsOf c s.data.toList) t s.size = e at *
        gi_wp2
        obtain ⟨x5, hK⟩ := HX3.out
        refine ⟨by simp, .inl ⟨_, _, rfl, run_takeDeferred hK, ?_⟩⟩
        exact ⟨_, results_tmp rfl _ _ _, by rw [← hkey.out]; rfl, x5.trans (belowK_b (w := w) (Nat.le_refl _) W D _ _ (by omega) hK rfl rfl)⟩
end Go.Proofs.YtbndinaiclkajaaDoor.K
