/- lines.Split: the lines of a text, and whether its last one ends. -/
import Derived.Test.YtgbhcanfjmefiaaDoorParts
import Derived.Test.YtgbhcanfjmefiaaDoorShelf
import Derived.Laws.EntriesVeiled
set_option linter.unusedVariables false
set_option linter.unusedSimpArgs false
namespace Go.Proofs.YtgbhcanfjmefiaaDoor.S
open Go.RowKit Go.Shelf Go.BigFrame Go.Proofs.YtgbhcanfjmefiaaDoor.H

attribute [local go_sem] Oper.semAt_some

set_option maxHeartbeats 1000000 in
theorem by_in (F : Fence) (n : Nat) (h41 : F.fn 13) (hro : F.round = none) (c : Int) (w : World) :
    CallsIn F n Tryd.prog 13 #[.int .u8 c] w fun e w' => e = .returned (.agg #[.func (.func 56) #[] #[.pointer (some ⟨w.heap.size, 0, none⟩)]]) ∧
      w' = (w.alloc (.cells #[.int .u8 c] 5)).alloc (.cells #[.func (.func 56) #[] #[.pointer (some ⟨w.heap.size, 0, none⟩)]] 51) := by
  refine callsIn_of_wp Tryd.func13 rfl h41 ?_ hro
  simp only [Tryd.ntmps13, List.size_toArray, List.length_cons, List.length_nil, Nat.reduceAdd, Nat.reduceSub, Array.replicate_succ, Array.replicate_zero, List.push_toArray, List.append_toArray, List.nil_append, List.cons_append]
  gi_wp2
  exact bodyPost_ret (v := .agg #[.func (.func 56) #[] #[.pointer (some ⟨w.heap.size, 0, none⟩)]]) (by simp [results, Tryd.results13, go_sem]) rfl ⟨rfl, rfl⟩

set_option maxHeartbeats 1000000 in
theorem parts_in (F : Fence) (n : Nat) (h42 : F.fn 14) (hro : F.round = none) (fv : Value) (s : ByteArray) (w : World) :
    CallsIn F n Tryd.prog 14 #[.agg #[fv], .string s] w fun e w' => e = .returned (.func (.func 57) #[] #[.pointer (some ⟨w.heap.size + 1, 0, none⟩), .pointer (some ⟨w.heap.size, 0, none⟩)]) ∧
      w' = (w.alloc (.cells #[fv] 51)).alloc (.cells #[.string s] 9) := by
  refine callsIn_of_wp Tryd.func14 rfl h42 ?_ hro
  simp only [Tryd.ntmps14, List.size_toArray, List.length_cons, List.length_nil, Nat.reduceAdd, Nat.reduceSub, Array.replicate_succ, Array.replicate_zero, List.push_toArray, List.append_toArray, List.nil_append, List.cons_append]
  gi_wp2
  go_ret
  exact ⟨rfl, rfl⟩

/-- What an append and the store back leave, the row's blocks lying from nr on. -/
theorem boxed_app {W w1 : World} {n₀ nr B : Nat} {t e : TypeId} {size : Nat} {v v' : Value} {k m : Nat} {xs ys : List Value} {tmp : Obj}
    (hv : Boxed W B t v) (hte : t ≠ e) (hrow : W.ownsRow nr e size v k xs) (hn₀ : n₀ ≤ W.heap.size) (hB : n₀ ≤ B) (hn : n₀ ≤ nr)
    (hown' : w1.ownsRow nr e size v' m ys) (hgrow : (W.alloc tmp).grownBy w1 v.ownBlock) :
    Boxed w1 B t v ∧ Boxed (w1.setCell ⟨B, 0, none⟩ v') B t v' ∧ (w1.setCell ⟨B, 0, none⟩ v').ownsRow nr e size v' m ys ∧ KeepsOthers W (w1.setCell ⟨B, 0, none⟩ v') ∧ Below n₀ W (w1.setCell ⟨B, 0, none⟩ v') ∧
      ∀ j, j < nr → j ≠ B → j < W.heap.size → (w1.setCell ⟨B, 0, none⟩ v').heap[j]? = W.heap[j]? := by
  have hv1 : Boxed w1 B t v := (hv.alloc tmp).kept hgrow (hv.not_row hte hrow)
  have hbase : ∀ j, v.ownBlock = some j → nr ≤ j := fun j ej => by
    rcases hrow.2 with ⟨rfl, _⟩ | ⟨g, cap, cur, rfl, hb, _, _⟩
    · simp [Value.ownBlock] at ej
    · obtain rfl : g = j := by simpa [Value.ownBlock] using ej
      exact hb
  refine ⟨hv1, hv1.set v', hown'.kept (grownBy_setCell' w1 B v') (.inr (hv1.not_row hte hown').symm), ?_, ?_, ?_⟩
  · refine ((KeepsOthers.alloc W tmp).trans (KeepsOthers.of_grownBy hgrow fun j o ej hj => ?_)).trans (KeepsOthers.setCell _ _ _)
    rcases (hrow.alloc tmp).2 with ⟨rfl, _⟩ | ⟨g, cap, cur, rfl, _, hgb, _⟩
    · simp [Value.ownBlock] at ej
    · obtain rfl : g = j := by simpa [Value.ownBlock] using ej
      rw [hgb] at hj; cases hj; rfl
  · exact (((Below.refl n₀ W).alloc hn₀ tmp).grown hgrow (by simp; omega) fun j ej => Nat.le_trans hn (hbase j ej)).setCell (p := ⟨B, 0, none⟩) hB v'
  · intro j h1 h2 h3
    rw [Below.heap_setCell w1 ⟨B, 0, none⟩ v' j h2, hgrow.block j (by simp; omega) (fun e' => by have := hbase j e'.symm; omega)]
    exact (World.grownBy_alloc W tmp none).block j h3 (by simp)

theorem collect_kept (n₀ B : Nat) (t e : TypeId) (k : List ByteArray → Nat) (f : List ByteArray → List Value) : Own (fun (pre : List ByteArray) W => ∃ v, Boxed W B t v ∧ W.ownsRow n₀ e 1 v (k pre) (f pre)) := by
  rintro s X Y row ⟨v, hv, hr⟩ hg hrow
  obtain ⟨v', a, b, _⟩ := holdsRow_own n₀ B t e 1 k f (fun _ _ => True) s X Y row ⟨v, hv, hr, trivial⟩ hg hrow
  exact ⟨v', a, b⟩
theorem keep3_putObj {a b c N : Nat} (ha : a < N) (hb : b < N) (hc : c < N) (W : World) (l : Nat) (o' : Obj) (hl : N ≤ l) : Keep3 a b c W (W.putObj l o') :=
  ⟨World.putObj_heap_other (by omega), World.putObj_heap_other (by omega), World.putObj_heap_other (by omega)⟩

/-- A text's lines, and whether its last one ends. -/
def bareOf (s : ByteArray) : ByteArray := ⟨(Lib.trimSuffix s.data.toList [10]).toArray⟩
def isNl (b : UInt8) : Bool := (b.toNat : Int) == 10
def splitOf (s : ByteArray) : List ByteArray × Bool := if s.size = 0 then ([], false) else (partsOf isNl (bareOf s), Lib.hasSuffix s.data.toList [10])

theorem own_weaken' {w : World} {base base' : Nat} {e size n : Nat} {v : Value} {xs : List Value} (h : w.ownsRow base e size v n xs) (hb : base' ≤ base) : w.ownsRow base' e size v n xs :=
  Go.Proofs.YtgbhcanfjmefiaaDoorW.PrintWords.own_weaken h hb
theorem toList_isEmpty (s : ByteArray) : s.toList.isEmpty = decide (s.size = 0) := by
  rw [Lib.toList_data, Lib.size_eq]
  cases s.data.toList <;> simp
theorem own_nil' (W : World) (base : Nat) (e : TypeId) : W.ownsRow base e 1 (.slice none 0 0) 0 (strs []) := ⟨rfl, .inl ⟨rfl, rfl⟩⟩
theorem bareOf_le (s : ByteArray) : (bareOf s).size ≤ s.size := by
  show (Lib.trimSuffix s.data.toList [10]).toArray.size ≤ s.data.size
  rw [List.size_toArray, ← Array.length_toList]
  unfold Lib.trimSuffix
  split <;> simp
set_option maxHeartbeats 4000000 in
set_option maxRecDepth 100000 in
theorem split_in (F : Fence) (n : Nat) (h30 : F.fn 5) (h41 : F.fn 13) (h42 : F.fn 14) (h43 : F.fn 12) (h49 : F.fn 56) (h50 : F.fn 57) (hro : F.round = none) (hn : 4 ≤ n)
    (s : ByteArray) (hs : s.size ≤ 8796093022000) (w : World)
    (hcut : ∀ w, CallsIn F (n - 1) Tryd.prog 12 #[.string s, .string ⟨#[10]⟩] w fun e w' => e = .returned (.tuple #[.string (bareOf s), .bool (Lib.hasSuffix s.data.toList [10])]) ∧ w = w') :
    CallsIn F n Tryd.prog 5 #[.string s] w fun e W' => ∃ v, e = .returned (.tuple #[v, .bool (splitOf s).2]) ∧ W'.ownsRow w.heap.size 9 1 v (splitOf s).1.length (strs (splitOf s).1) ∧ Below w.heap.size w W' := by
  have h1 : 1 ≤ n := by omega
  obtain ⟨i0, hi, hz0, hz1, hz2⟩ := info_parts infoS
  refine callsIn_of_wp_marks Tryd.func5 rfl h30 ?_ hro
  simp only [Tryd.ntmps5, List.size_toArray, List.length_cons, List.length_nil, Nat.reduceAdd, Nat.reduceSub, Array.replicate_succ, Array.replicate_zero, List.push_toArray, List.append_toArray, List.nil_append, List.cons_append]
  by_cases he : s.size = 0
  · have hsp : splitOf s = ([], false) := by unfold splitOf; rw [if_pos he]
    rw [hsp]
    have hl : s.toList.isEmpty = true := by rw [toList_isEmpty]; simpa using he
    gi_wp2_with (gi_at_call 12; refine (hcut _).mono ?_; rintro e w' ⟨rfl, rfl⟩)
    exact ⟨_, results_tmp2 rfl _ _ _, _, rfl, own_nil' _ _ _, Below.refl _ _⟩
  · have hsp : splitOf s = (partsOf isNl (bareOf s), Lib.hasSuffix s.data.toList [10]) := by unfold splitOf; rw [if_neg he]
    rw [hsp]
    have hl : s.toList.isEmpty = false := by rw [toList_isEmpty]; simpa using he
    have hbs := bareOf_le s
    clear hsp he
    gi_wp2_with (first | (gi_at_call 12; refine (hcut _).mono ?_; rintro e w' ⟨rfl, rfl⟩) | (gi_at_call 13; refine (by_in F (n - 1) h41 hro _ _).mono ?_; rintro e w' ⟨rfl, rfl⟩) | (gi_at_call 14; refine (parts_in F (n - 1) h42 hro _ _ _).mono ?_; rintro e w' ⟨rfl, rfl⟩))
    obtain ⟨W0, hW0⟩ : ∃ W0, (((((w.alloc (Obj.cells #[Value.slice none 0 0] 23)).alloc (Obj.cells #[Value.int IntKind.u8 10] 5)).alloc
              (Obj.cells #[Value.func (Fn.func 56) #[] #[Value.pointer (some { block := w.heap.size + 1, off := 0 })]] 51)).alloc
          (Obj.cells #[Value.func (Fn.func 56) #[] #[Value.pointer (some { block := w.heap.size + 1, off := 0 })]] 51)).alloc
      (Obj.cells #[Value.string (bareOf s)] 9)) = W0 := ⟨_, rfl⟩
    have hzW : W0.heap.size = w.heap.size + 5 := by rw [← hW0]; simp
    have hB0 : Below w.heap.size w W0 := by rw [← hW0]; exact bal (bal (bal (bal (bal (Below.refl _ _) _) _) _) _) _
    have bO : Boxed W0 w.heap.size 23 (.slice none 0 0) := by rw [← hW0]; exact (((((Boxed.new w 23 (.slice none 0 0)).alloc _).alloc _).alloc _).alloc _)
    have cC : W0.cell? ⟨w.heap.size + 1, 0, none⟩ = some (.int .u8 10) := by
      rw [← hW0]
      have := Boxed.new (w.alloc (Obj.cells #[Value.slice none 0 0] 23)) 5 (Value.int IntKind.u8 10)
      rw [World.size_alloc] at this
      exact (((this.alloc _).alloc _).alloc _).cell
    have cP : W0.cell? ⟨w.heap.size + 1 + 1 + 1, 0, none⟩ = some (.func (.func 56) #[] #[.pointer (some ⟨w.heap.size + 1, 0, none⟩)]) := by
      rw [← hW0]
      have := Boxed.new (((w.alloc (Obj.cells #[Value.slice none 0 0] 23)).alloc (Obj.cells #[Value.int IntKind.u8 10] 5)).alloc
              (Obj.cells #[Value.func (Fn.func 56) #[] #[Value.pointer (some { block := w.heap.size + 1, off := 0 })]] 51)) 51 (Value.func (Fn.func 56) #[] #[Value.pointer (some { block := w.heap.size + 1, off := 0 })])
      rw [World.size_alloc, World.size_alloc, World.size_alloc] at this
      exact (this.alloc _).cell
    have cS : W0.cell? ⟨w.heap.size + 1 + 1 + 1 + 1, 0, none⟩ = some (.string (bareOf s)) := by
      rw [← hW0]
      have := Boxed.new ((((w.alloc (Obj.cells #[Value.slice none 0 0] 23)).alloc (Obj.cells #[Value.int IntKind.u8 10] 5)).alloc
              (Obj.cells #[Value.func (Fn.func 56) #[] #[Value.pointer (some { block := w.heap.size + 1, off := 0 })]] 51)).alloc
          (Obj.cells #[Value.func (Fn.func 56) #[] #[Value.pointer (some { block := w.heap.size + 1, off := 0 })]] 51)) 9 (Value.string (bareOf s))
      rw [World.size_alloc, World.size_alloc, World.size_alloc, World.size_alloc] at this
      exact this.cell
    rw [hW0]
    refine wpIn_rangeFunc_ownG hro h1 (gf := 57) (lb := #[.pointer (some ⟨w.heap.size + 1 + 1 + 1 + 1, 0, none⟩), .pointer (some ⟨w.heap.size + 1 + 1 + 1, 0, none⟩)]) rfl h50 (enters_of Tryd.func57 (by kernel_rfl) rfl)
      (parts_stops F (n - 1) h50 h49 hro (by omega) (w.heap.size + 1 + 1 + 1 + 1) (w.heap.size + 1 + 1 + 1) (w.heap.size + 1) (bareOf s) (by omega) 10 W0 cS cP cC) Keep3.trans (fun W l o o' hl _ _ _ => keep3_putObj (N := W0.heap.size) (by omega) (by omega) (by omega) W l o' hl) (Below.refl _ _) (fun _ => rfl)
      (fun pre W => (∃ v, Boxed W w.heap.size 23 v ∧ W.ownsRow (w.heap.size + 5) 9 1 v pre.length (strs pre)) ∧ (Below w.heap.size w W ∧ w.heap.size + 5 ≤ W.heap.size))
      (fun _ _ _ => False)
      ?hI (fun _ _ _ _ _ hs _ _ => hs) ⟨⟨_, bO, own_nil' _ _ _⟩, hB0, by omega⟩
      (fun x => { tmps := #[.string s, undef, .slice none 0 0, .bool false, .string (bareOf s), .bool (Lib.hasSuffix s.data.toList [10]), .pointer (some ⟨w.heap.size, 0, none⟩), .string x, .tuple #[.string (bareOf s), .bool (Lib.hasSuffix s.data.toList [10])], .string s, .tuple #[.string (bareOf s), .bool (Lib.hasSuffix s.data.toList [10])], .string (bareOf s), .bool (Lib.hasSuffix s.data.toList [10]), .string s, .bool false, .agg #[.func (.func 56) #[] #[.pointer (some ⟨w.heap.size + 1, 0, none⟩)]], .string (bareOf s), .func (.func 57) #[] #[.pointer (some ⟨w.heap.size + 1 + 1 + 1 + 1, 0, none⟩), .pointer (some ⟨w.heap.size + 1 + 1 + 1, 0, none⟩)], .string x, undef, undef, undef, undef, undef, undef], defers := [] }) ?assign ?body ?done ?stop
    case hI =>
      refine OwnFrom.and (Own.from (collect_kept (w.heap.size + 5) w.heap.size 23 9 (fun pre => pre.length) strs) _) (OwnFrom.and (ownFrom_below (Nat.le_refl _) (by omega)) ?_)
      exact fun q A B row hq hg _ => Nat.le_trans hq hg.size
    case assign =>
      intro l x W K hK
      gi_wp2
      exact hK
    case body =>
      rintro l pre x W ⟨⟨v, hv, hrow⟩, hB, hz⟩ hlt
      have hc := hv.cell
      gi_wp2_with (gi_at_builtin; refine wpListIn_append_own _ rfl _ _ 23 rfl (w.heap.size + 5) 9 i0 (.string ⟨#[]⟩) 1 16 Tryd.underlying23 hi hz0 hz1 hz2 rfl (by decide) _ _ _ rfl (hrow.alloc _) ⟨W.heap.size, 0, none⟩ 1 1 [.string x] rfl rfl (cell_one_new _ _ _) (by simp [Value.oneCell']) (by unfold maxLen; omega) (by omega) (by simp; omega) ?_; intro v' w1 hown' hgrow _; obtain ⟨g', cap', rfl⟩ := ownsRow_succ hown'; obtain ⟨hv1, hv2, hr2, hk2, hb2, hk3⟩ := boxed_app (n₀ := w.heap.size) hv (by decide) hrow (by omega) (Nat.le_refl _) (by omega) hown' hgrow; have hc1 := hv1.cell; have hf1 := hv1.frozen)
      exact ⟨hk2.from _, ⟨hk3 _ (by omega) (by omega) (by omega), hk3 _ (by omega) (by omega) (by omega), hk3 _ (by omega) (by omega) (by omega)⟩, ⟨_, hv2, by simpa [strs] using hr2⟩, hB.trans hb2, Nat.le_trans hz hb2.size⟩
    case done =>
      rintro D ys W hD rfl ⟨⟨v, hv, hrow⟩, hB, hz⟩ hK
      have hc := hv.cell
      gi_wp2
      refine ⟨by simp, .inl ⟨_, _, rfl, run_takeDeferred hK, ?_⟩⟩
      exact ⟨_, results_tmp2 rfl _ _ _, v, rfl, own_weaken' (ownsRow_putObj hrow _ hK rfl) (by omega), hB.trans (belowK_b (w := w) (Nat.le_refl _) W D _ _ (by omega) hK rfl rfl)⟩
    case stop =>
      rintro D c pre W _ _ h _
      exact h.elim
end Go.Proofs.YtgbhcanfjmefiaaDoor.S
