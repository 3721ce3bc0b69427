/- Written by merge.py out of RangeAsg, VConcat, VFields, VFields2, VFields3, VSorted, VPairs, VReg, VJBody, VJRange, VJoin. -/
import Derived.Test.YtlicjpbmlmongaaGreatDoorRangeBox
import Derived.Test.YtlicjpbmlmongaaGreatDoorShelf
import Derived.Test.YtlicjpbmlmongaaGreatDoorHelp
import Derived.Laws.AppendOwnNone
import Derived.Maps.AppendAt
import Derived.Test.YtlicjpbmlmongaaGreatDoorFields
import Derived.Test.YtlicjpbmlmongaaGreatDoorVTxt
import Derived.Deep.RegionHeld3
import Derived.Deep.AppendLies
import Derived.Outline
import Derived.RangeFuncNested
import Derived.RangeFuncBound
import Derived.RangeFuncCalls
import Derived.RangeFuncLeaves
import Derived.Shelf.Abstract
import Derived.Shelf.RegionOpen
import Derived.WalkKit
import Derived.OwnWalkIn
import Derived.TacticsInMore
import Derived.LoopNIn
import Derived.LoopIn
import Derived.RegionIn
import Derived.Sort.BigQuietIn
import Derived.WalkLawsBesides
import Derived.WalkSpells
import Derived.OrdersIn
import Derived.KernelRfl
import Derived.TacticsIn
section
/- A range over an iterator where the loop's variables are laid anew in blocks of their own ahead of each round: the rule. -/
set_option linter.unusedVariables false
set_option linter.unusedSimpArgs false
namespace Go.Proofs.YtlicjpbmlmongaaGreatDoor.H
open Go.RowKit Go
variable {F : Fence} {n : Nat} {P : Program}

theorem wpIn_rangeFunc_asg {α : Type} {g : Operand} {ps : Array Tmp} {assign body : Code} {Q : Exit → Act → World → Prop} {a : Act} {w : World}
    (hro : F.round = none) (h1 : 1 ≤ n) {gf : Nat} {lb : Array Value} (hg : a.eval g = .func (.func gf) #[] lb) (hFg : F.fn gf) (eg : ∀ args w, (callFunc gf args).run P w = .ok (.enter gf args) w)
    {encs : α → Array Value} {Kp : World → World → Prop} {S Sp : List α → Prop} {N : Nat} (hseq : SeqStopsK F (n - 1) P gf lb encs Kp S Sp N w)
    (hKt : ∀ {A B C : World}, Kp A B → Kp B C → Kp A C) (hKw : ∀ A B, Below A.heap.size A B → Kp A B) (hKb : ∀ (W : World) (l : Nat) (o o' : Obj), w.heap.size ≤ l → W.heap[l]? = some o → o.isCells = false → Kp W (W.putObj l o')) (hps : ∀ x, (encs x).size = ps.size)
    (I : List α → World → Prop) (Ix : Code → List α → World → Prop) (hI : OwnFrom w.heap.size I) (hIx : ∀ c, OwnFrom w.heap.size (Ix c)) (h0 : I [] w)
    (Asg : α → Act → World → Prop) (hAsg : ∀ x a, OwnFrom w.heap.size (fun (_ : Unit) W => Asg x a W))
    (hassign : ∀ (l : Nat) (x : α) (W : World) (K : Act → World → Prop), (∀ a1 W1, Below W.heap.size W W1 → Asg x a1 W1 → K a1 W1) →
      assign.wpIn (F.inRound l) (n - 1 - 1) P (Exit.then K (fun _ _ _ => False)) { tmps := (ps.zip (encs x)).foldl (fun t (p, v) => t.setIfInBounds p v) a.tmps, defers := [] } W)
    (hbody : ∀ (l : Nat) (pre : List α) (x : α) (a1 : Act) (W : World), I pre W → pre.length < N → Asg x a1 W → body.wpIn (F.inRound l) (n - 1 - 1) P (ownPostG w.heap.size Kp I Ix (pre ++ [x]) W) a1 W)
    (hdone : ∀ (D : Nat) (xs : List α) (W : World), w.heap.size ≤ D → S xs → I xs W → W.heap[D]? = some (.deferred (some [])) → Q .normal { a with defers := { target := .collected D, args := #[] } :: a.defers } W)
    (hstop : ∀ (D : Nat) (c : Code) (pre : List α) (W : World), w.heap.size ≤ D → Sp pre → Ix c pre W → W.heap[D]? = some (.deferred (some [])) → c.wpIn F n P Q { a with defers := { target := .collected D, args := #[] } :: a.defers } W) :
    (Code.rangeFunc g ps assign body).wpIn F n P Q a w := by
  refine wpIn_rangeFunc fun fn hfn => ?_
  rw [hro]
  obtain ⟨rec, hrec⟩ : ∃ rec : LoopState → Option Code → Loop, rec = fun st pe => { state := st, pending := pe, fn, tmps := a.tmps, params := ps, assign, body, defers := w.heap.size } := ⟨_, rfl⟩
  obtain ⟨W1, hW1⟩ : ∃ W1, (w.alloc (.deferred (some []))).alloc (.loop (rec .ready none)) = W1 := ⟨_, rfl⟩
  have hL : W1.heap[w.heap.size + 1]? = some (.loop (rec .ready none)) := by
    rw [← hW1]
    have := World.alloc_heap_new (w.alloc (.deferred (some []))) (.loop (rec .ready none))
    rwa [World.size_alloc] at this
  have hD : W1.heap[w.heap.size]? = some (.deferred (some [])) := by
    rw [← hW1]
    exact (Below.heap_alloc _ _ _ (by simp)).trans (World.alloc_heap_new w _)
  have hB : Below w.heap.size w W1 := by rw [← hW1]; exact bal (bal (Below.refl _ w) _) _
  have hI1 : I [] W1 := by rw [← hW1]; exact hI.alloc _ (hI.alloc _ h0)
  refine ⟨w.heap.size + 1, [{ target := .collected w.heap.size, args := #[] }], W1, { target := .fn (.func gf) lb, args := #[.func (.yield (w.heap.size + 1)) #[] #[]] }, W1, gf,
    #[.func (.yield (w.heap.size + 1)) #[] #[]] ++ lb, W1, by rw [← hW1, hrec]; exact run_enterLoop_outer _ _ _ _ _, by simp only [resolve, hg]; simp [go_sem], fun f' hf' => by simp [Target.leads] at hf'; subst hf'; exact hFg, by simp [invoke, go_sem, eg], fun _ => h1, ?_⟩
  have lt2 : ∀ {A : World} {o : Obj}, A.heap[w.heap.size + 1]? = some o → w.heap.size + 1 < A.heap.size := fun h => (Array.getElem?_eq_some_iff.1 h).1
  have hW1s : w.heap.size ≤ W1.heap.size := hB.size
  have keepL : ∀ {A B : World} {row : Option Nat} {k : Nat} {o : Obj}, A.grownBy B row → (∀ r, row = some r → W1.heap.size ≤ r ∧ ∃ o : Obj, A.heap[r]? = some o ∧ o.isWalk = true) → A.heap[k]? = some o → o.isWalk = false → B.heap[k]? = some o := by
    intro A B row k o hg hr hk ho
    refine (hg.block k (Array.getElem?_eq_some_iff.1 hk).1 ?_).trans hk
    intro e
    obtain ⟨_, o', ho', hw'⟩ := hr k e.symm
    rw [hk] at ho'
    cases ho'
    rw [ho] at hw'
    cases hw'
  have cells_of : ∀ {A : World} {row : Option Nat}, (∀ r, row = some r → W1.heap.size ≤ r ∧ ∃ o : Obj, A.heap[r]? = some o ∧ o.isWalk = true) → (∀ r, row = some r → w.heap.size ≤ r ∧ ∃ o : Obj, A.heap[r]? = some o ∧ o.isCells = false) :=
    fun hr r e => by
      obtain ⟨h, o, ho, hw⟩ := hr r e
      exact ⟨by omega, o, ho, Obj.not_cells_of_walk hw⟩
  refine (hseq (w.heap.size + 1)
    (fun pre A => I pre A ∧ A.heap[w.heap.size + 1]? = some (.loop (rec .ready none)) ∧ A.heap[w.heap.size]? = some (.deferred (some [])))
    (fun pre A => ∃ c, Ix c pre A ∧ A.heap[w.heap.size + 1]? = some (.loop (rec .done (some c))) ∧ A.heap[w.heap.size]? = some (.deferred (some [])))
    W1 hB
    (fun s A B row hs hg' hr => ⟨hI s A B row hs.1 hg' (cells_of hr), keepL hg' hr hs.2.1 rfl, keepL hg' hr hs.2.2 rfl⟩)
    (fun s A B row hs hg' hr => by
      obtain ⟨c, hc, hl, hk⟩ := hs
      exact ⟨c, hIx c s A B row hc hg' (cells_of hr), keepL hg' hr hl rfl, keepL hg' hr hk rfl⟩)
    ?_ ⟨hI1, hL, hD⟩).mono ?_
  · rintro pre x A ⟨hi, hl, hk⟩ hlen
    have hlt := lt2 hl
    have hy := run_yield (P := P) (args := encs x) hl (by rw [hrec]; exact hps x)
    rw [hrec] at hy
    refine ⟨fn, _, assign, body, hy, roundIn_of_wpIn hfn (hassign _ x A _ ?_)⟩
    intro a1 A1 hbA hAs
    have hl1 : A1.heap[w.heap.size + 1]? = some (.loop (rec .ready none)) := (hbA.block _ hlt).trans hl
    have hk1 : A1.heap[w.heap.size]? = some (.deferred (some [])) := (hbA.block _ (by omega)).trans hk
    have hi1 : I pre A1 := hI pre A _ none hi (grown_of_below hbA) (fun r e => by cases e)
    have hlt1 := lt2 hl1
    refine ⟨_, run_beginRound hl1 (by rw [hrec]), ?_⟩
    have hl2 : (A1.putObj (w.heap.size + 1) (.loop { rec .ready none with state := .busy })).heap[w.heap.size + 1]? = some (.loop { rec .ready none with state := .busy }) := World.putObj_heap_same hlt1
    have hk2 : (A1.putObj (w.heap.size + 1) (.loop { rec .ready none with state := .busy })).heap[w.heap.size]? = some (.deferred (some [])) := (World.putObj_heap_other (by omega)).trans hk1
    have hw2 : Kp A (A1.putObj (w.heap.size + 1) (.loop { rec .ready none with state := .busy })) := hKt (hKw _ _ hbA) (hKb _ _ _ _ (by omega) hl1 rfl)
    refine wpIn_mono (hbody _ pre x a1 _ (hI.putObj _ hi1 (by omega) hl1 rfl) hlen ((hAsg x a1).putObj (s := ()) _ hAs (by omega) hl1 rfl)) ?_
    have fin : ∀ (jump : Option Code) (B : World), KeepsFrom w.heap.size (A1.putObj (w.heap.size + 1) (.loop { rec .ready none with state := .busy })) B →
        (Instr.endRound (w.heap.size + 1) jump).run P B = .ok (.bool jump.isNone) (B.putObj (w.heap.size + 1) (.loop (rec (if jump.isNone then .ready else .done) jump))) ∧
        B.heap[w.heap.size + 1]? = some (.loop { rec .ready none with state := .busy }) ∧
        (B.putObj (w.heap.size + 1) (.loop (rec (if jump.isNone then .ready else .done) jump))).heap[w.heap.size + 1]? = some (.loop (rec (if jump.isNone then .ready else .done) jump)) ∧
        (B.putObj (w.heap.size + 1) (.loop (rec (if jump.isNone then .ready else .done) jump))).heap[w.heap.size]? = some (.deferred (some [])) := fun jump B hk3 => by
      have hl3 := hk3.same _ _ (by omega) hl2 rfl
      have hr := run_endRound (P := P) jump hl3
      rw [hrec] at hr ⊢
      exact ⟨hr, by rw [hrec] at hl3; exact hl3, World.putObj_heap_same (Array.getElem?_eq_some_iff.1 hl3).1, (World.putObj_heap_other (by omega)).trans (hk3.same _ _ (Nat.le_refl _) hk2 rfl)⟩
    rintro e a3 B hp
    cases e with
    | normal =>
      obtain ⟨hk3, hkp3, hi3⟩ := hp
      obtain ⟨hr, hl3, hl4, hk4⟩ := fin none B hk3
      exact ⟨_, _, hr, .inl ⟨rfl, ⟨hI.putObj _ hi3 (by omega) hl3 rfl, hl4, hk4⟩, hKt (hKt hw2 hkp3) (hKb _ _ _ _ (by omega) hl3 rfl)⟩⟩
    | ret =>
      obtain ⟨hk3, hi3⟩ := hp
      obtain ⟨hr, hl3, hl4, hk4⟩ := fin (some .ret) B hk3
      exact ⟨_, _, hr, .inr ⟨rfl, .ret, (hIx _).putObj _ hi3 (by omega) hl3 rfl, hl4, hk4⟩⟩
    | exit id =>
      obtain ⟨hk3, hi3⟩ := hp
      obtain ⟨hr, hl3, hl4, hk4⟩ := fin (some (.exit id)) B hk3
      exact ⟨_, _, hr, .inr ⟨rfl, .exit id, (hIx _).putObj _ hi3 (by omega) hl3 rfl, hl4, hk4⟩⟩
    | goto t =>
      obtain ⟨hk3, hi3⟩ := hp
      obtain ⟨hr, hl3, hl4, hk4⟩ := fin (some (.goto t)) B hk3
      exact ⟨_, _, hr, .inr ⟨rfl, .goto t, (hIx _).putObj _ hi3 (by omega) hl3 rfl, hl4, hk4⟩⟩
    | panic ch => exact hp.elim
    | outgrown => exact hp.elim
  · rintro e B ⟨⟨v, rfl⟩, (⟨xs, hS, hi, hl, hk⟩ | ⟨pre, hSp, c, hi, hl, hk⟩)⟩
    · have he := run_endLoop (P := P) hl (by rw [hrec]; simp)
      rw [hrec] at he
      exact ⟨none, _, he, hdone _ xs _ (Nat.le_refl _) hS (hI.putObj _ hi (by omega) hl rfl) ((World.putObj_heap_other (by omega)).trans hk)⟩
    · have he := run_endLoop (P := P) hl (by rw [hrec]; simp)
      rw [hrec] at he
      exact ⟨some c, _, he, hstop _ c pre _ (Nat.le_refl _) hSp ((hIx c).putObj _ hi (by omega) hl rfl) ((World.putObj_heap_other (by omega)).trans hk)⟩
end Go.Proofs.YtlicjpbmlmongaaGreatDoor.H

end
section
/- slices.Concat of three lists of texts. -/
set_option linter.unusedVariables false
set_option linter.unusedSimpArgs false
namespace Go.Proofs.YtlicjpbmlmongaaGreatDoor.H
open Go.RowKit Go.Proofs Go.Proofs.YtlicjpbmlmongaaGreatDoorW.PrintWords

theorem own_slice' {w : World} {base e size n : Nat} {v : Value} {xs : List Value} (h : w.ownsRow base e size v n xs) : ∃ a c, v = .slice a n c := by
  rcases h.2 with ⟨rfl, h0⟩ | ⟨g, cap, cur, rfl, _⟩
  · exact ⟨none, 0, by rw [h0]⟩
  · exact ⟨_, _, rfl⟩
set_option maxHeartbeats 1000000 in
set_option maxRecDepth 100000 in
theorem grow_nil (n : Nat) (hn : n ≤ 8000000) (w : World) :
    Calls Tryz.prog 131 #[.slice none 0 0, .int .i64 (n : Int)] w fun e w' => ∃ v, e = .returned v ∧ w'.ownsRow w.heap.size 9 1 v 0 [] ∧ Below w.heap.size w w' := by
  by_cases h0 : n = 0
  · subst h0
    go_enter Tryz.func131, Tryz.ntmps131
    go_wp2
    go_ret
    exact ⟨_, rfl, World.ownsRow_nil _ _ _ _, Below.refl _ _⟩
  · have h1 : ¬ ((n : Int) ≤ 0) := by omega
    go_enter Tryz.func131, Tryz.ntmps131
    go_wp2_with (at_builtin; go_loud (refine Kd.R_append_zeros Kd.string w.heap.size rfl _ _ 24 3 9 (.string ⟨#[]⟩) 16 rfl Tryz.underlying24 Tryz.underlying3 infoS rfl (by decide) (by decide) (.slice none 0 0) [] ⟨#[]⟩ (n : Int) (fun _ => True) rfl rfl rfl (fun _ _ => trivial) (Kd.R_nil _ _ _ _ _) (by omega) (Below.refl _ _) (Nat.le_refl _) (by simp; omega) ?_))
    intro v1 w1 hR hb hg hat
    obtain ⟨_, inner, hown, hr⟩ := hR
    obtain ⟨A, c, rfl⟩ := own_slice' hown
    obtain ⟨M, hM⟩ : ∃ M, (List.replicate n (⟨#[]⟩ : ByteArray)).length = M := ⟨_, rfl⟩
    rw [hM] at hown ⊢
    have O0 := own_take hown (Nat.zero_le _)
    rw [Nat.zero_mul, List.take_zero] at O0
    have hO := Lib.hid (And.intro O0 hb)
    have hc : M ≤ c ∧ c ≤ 9223372036854775807 := by
      rcases hown.2 with ⟨h1, h2⟩ | ⟨g, cap, cur, h1, _, _, h2, h3, _⟩
      · cases h1; omega
      · cases h1
        unfold maxLen at h3
        omega
    clear hown hr hM hg hat hb O0
    go_wp2
    go_ret
    exact ⟨_, rfl, hO.out.1, hO.out.2⟩
theorem own_of_R {W : World} {base : Nat} {ok : Nat → Prop} {v : Value} {l : List ByteArray} (h : Kd.R Kd.string 9 W base ok v l) : W.ownsRow base 9 1 v l.length (strs l) := by
  obtain ⟨_, inner, hown, hr⟩ := h
  have e : inner = strs l := by
    apply List.ext_getElem?
    intro j
    have hlen : inner.length = l.length := by have := hr.1; rw [show Kd.string.sz = 1 from rfl, Nat.mul_one] at this; exact this
    by_cases hj : j < l.length
    · have hm := hr.2 j l[j] (List.getElem?_eq_getElem hj)
      have hm2 : (inner.drop (j * 1)).take 1 = [.string l[j]] := hm
      rw [Nat.mul_one, List.drop_eq_getElem_cons (by omega)] at hm2
      have hm3 : inner[j]'(by omega) = .string l[j] := (List.cons.inj hm2).1
      rw [List.getElem?_eq_getElem (by omega), hm3, List.getElem?_eq_getElem (by rw [strs_length]; exact hj)]
      simp [strs]
    · rw [List.getElem?_eq_none (by omega), List.getElem?_eq_none (by rw [strs_length]; omega)]
  rw [← e]
  exact hown
theorem KM_str {w W : World} {base : Nat} {okp : Nat → Prop} (x : ByteArray) (cs : List Value) (h : Kd.string.K w x cs) : Kd.string.M W base okp x cs := h
set_option maxHeartbeats 2000000 in
set_option maxRecDepth 100000 in
theorem concat3_calls (G : Nat) (A1 A2 A3 : Option Addr) (n1 c1 n2 c2 n3 c3 : Nat) (l1 l2 l3 : List ByteArray) (w : World) (hG : G < w.heap.size)
    (hg0 : w.cell? ⟨G, 0, none⟩ = some (.slice A1 n1 c1)) (hg1 : w.cell? ⟨G, 1, none⟩ = some (.slice A2 n2 c2)) (hg2 : w.cell? ⟨G, 2, none⟩ = some (.slice A3 n3 c3)) (e1 : l1.length = n1) (e2 : l2.length = n2) (e3 : l3.length = n3)
    (h1 : Kd.C Kd.string w A1 l1.length l1) (h2 : Kd.C Kd.string w A2 l2.length l2) (h3 : Kd.C Kd.string w A3 l3.length l3) (k1 : n1 ≤ c1) (k2 : n2 ≤ c2) (k3 : n3 ≤ c3) (hl : n1 + n2 + n3 ≤ 8000000) :
    Calls Tryz.prog 83 #[.slice (some ⟨G, 0, none⟩) 3 3] w fun e w' => ∃ v, e = .returned v ∧ w'.ownsRow w.heap.size 9 1 v (n1 + (n2 + n3)) (strs (l1 ++ (l2 ++ l3))) ∧ Below w.heap.size w w' := by
  subst e1 e2 e3
  have H1 := Lib.hid h1
  have H2 := Lib.hid h2
  have H3 := Lib.hid h3
  clear h1 h2 h3
  go_enter Tryz.func83, Tryz.ntmps83
  go_wp2
  go_loop [3, 11] (fun a i => (a = .int .i64 0 ∧ i = .int .i64 0) ∨ (a = .int .i64 (l1.length : Int) ∧ i = .int .i64 1) ∨ (a = .int .i64 ((l1.length : Int) + (l2.length : Int)) ∧ i = .int .i64 2) ∨ (a = .int .i64 ((l1.length : Int) + (l2.length : Int) + (l3.length : Int)) ∧ i = .int .i64 3)) (fun _ i => 3 - (intOf i).toNat)
  case atStart => exact .inl ⟨rfl, rfl⟩
  case round =>
    rcases hrel with ⟨rfl, rfl⟩ | ⟨rfl, rfl⟩ | ⟨rfl, rfl⟩ | ⟨rfl, rfl⟩
    · go_wp2
      go_round
      case rel => exact .inr (.inl ⟨by simp, rfl⟩)
      case measure => decide
    · go_wp2
      go_round
      case rel => exact .inr (.inr (.inl ⟨rfl, rfl⟩))
      case measure => decide
    · go_wp2
      go_round
      case rel => exact .inr (.inr (.inr ⟨rfl, rfl⟩))
      case measure => decide
    · have hn : (l1.length : Int) + (l2.length : Int) + (l3.length : Int) = ((l1.length + l2.length + l3.length : Nat) : Int) := by omega
      have HN := Lib.hid hn
      clear hn
      go_wp2_with (go_at_call 131; rw [HN.out]; refine (grow_nil (l1.length + l2.length + l3.length) hl _).mono ?_)
      rintro e w2 v rfl ho hb
      have O := Lib.hid (And.intro ho hb)
      clear ho hb
      go_wp2
      go_loopw [6, 27] (fun v i wr => ∃ L : List ByteArray, ((L = [] ∧ i = .int .i64 0) ∨ (L = l1 ∧ i = .int .i64 1) ∨ (L = l1 ++ l2 ∧ i = .int .i64 2) ∨ (L = l1 ++ (l2 ++ l3) ∧ i = .int .i64 3)) ∧ Hid (wr.ownsRow w.heap.size 9 1 v L.length (strs L) ∧ Below w.heap.size w wr)) (fun _ i _ => 3 - (intOf i).toNat)
      case atStart => exact ⟨[], .inl ⟨rfl, rfl⟩, O⟩
      case round =>
        obtain ⟨L, hL, hr⟩ := hrel
        have q0 := (hr.out.2.cell (p := ⟨G, 0, none⟩) hG).trans hg0
        have q1 := (hr.out.2.cell (p := ⟨G, 1, none⟩) hG).trans hg1
        have q2 := (hr.out.2.cell (p := ⟨G, 2, none⟩) hG).trans hg2
        have hbase := hr.out.2.size
        rcases hL with ⟨hL1, rfl⟩ | ⟨hL1, rfl⟩ | ⟨hL1, rfl⟩ | ⟨hL1, rfl⟩ <;> rw [hL1] at hr <;> clear hL1
        · go_wp2_with (at_builtin; go_loud (refine Kd.R_append_rows Kd.string w.heap.size rfl _ _ 24 9 (.string ⟨#[]⟩) 16 rfl Tryz.underlying24 infoS rfl (by decide) (by decide) _ [] l1 A1 l1.length c1 (fun _ => True) (fun _ => False) rfl rfl (R_of_own hr.out.1) (Kd.C_below H1.out hr.out.2) KM_str (fun _ hk => hk.elim) (fun _ _ => trivial) hr.out.2 hbase (by simp; omega) ?_))
          intro v3 w3 hR hb3 hg3 hat3
          have O3 := Lib.hid (And.intro (own_of_R hR) hb3)
          clear hR hb3 hg3 hat3 q0 q1 q2
          go_wp2
          go_roundw
          case rel => exact ⟨l1, .inr (.inl ⟨rfl, rfl⟩), O3⟩
          case measure => decide
        · go_wp2_with (at_builtin; go_loud (refine Kd.R_append_rows Kd.string w.heap.size rfl _ _ 24 9 (.string ⟨#[]⟩) 16 rfl Tryz.underlying24 infoS rfl (by decide) (by decide) _ l1 l2 A2 l2.length c2 (fun _ => True) (fun _ => False) rfl rfl (R_of_own hr.out.1) (Kd.C_below H2.out hr.out.2) KM_str (fun _ hk => hk.elim) (fun _ _ => trivial) hr.out.2 hbase (by omega) ?_))
          intro v3 w3 hR hb3 hg3 hat3
          have O3 := Lib.hid (And.intro (own_of_R hR) hb3)
          clear hR hb3 hg3 hat3 q0 q1 q2
          go_wp2
          go_roundw
          case rel => exact ⟨l1 ++ l2, .inr (.inr (.inl ⟨rfl, rfl⟩)), O3⟩
          case measure => decide
        · go_wp2_with (at_builtin; go_loud (refine Kd.R_append_rows Kd.string w.heap.size rfl _ _ 24 9 (.string ⟨#[]⟩) 16 rfl Tryz.underlying24 infoS rfl (by decide) (by decide) _ (l1 ++ l2) l3 A3 l3.length c3 (fun _ => True) (fun _ => False) rfl rfl (R_of_own hr.out.1) (Kd.C_below H3.out hr.out.2) KM_str (fun _ hk => hk.elim) (fun _ _ => trivial) hr.out.2 hbase (by rw [List.length_append]; omega) ?_))
          intro v3 w3 hR hb3 hg3 hat3
          have O3 := Lib.hid (And.intro (own_of_R hR) hb3)
          clear hR hb3 hg3 hat3 q0 q1 q2
          go_wp2
          go_roundw
          case rel => exact ⟨l1 ++ (l2 ++ l3), .inr (.inr (.inr ⟨rfl, rfl⟩)), O3⟩
          case measure => decide
        · rw [List.length_append, List.length_append] at hr
          go_wp2
          go_ret
          exact ⟨_, rfl, hr.out.1, hr.out.2⟩
end Go.Proofs.YtlicjpbmlmongaaGreatDoor.H

end
section
/- views.fields: of each line a field and the others. -/
set_option linter.unusedVariables false
set_option linter.unusedSimpArgs false
namespace Go.Proofs.YtlicjpbmlmongaaGreatDoor.C
open Go.RowKit Go.Proofs Go.Proofs.YtlicjpbmlmongaaGreatDoor.H Go.Proofs.YtlicjpbmlmongaaGreatDoor.S Go.Proofs.YtlicjpbmlmongaaGreatDoorW.PrintWords

/-- A field of a line, and the others. -/
abbrev FR := ByteArray × List ByteArray
def fieldP (c : Int) (n : Nat) (s : ByteArray) : FR := if n ≤ (fieldsOf s c).length then ((fieldsOf s c).getD (n - 1) ⟨#[]⟩, (fieldsOf s c).eraseIdx (n - 1)) else (⟨#[]⟩, fieldsOf s c)
/-- The cells of fields; each one's others lie at a value of their own. -/
def flatF : List (FR × Value) → List Value
  | [] => []
  | x :: l => .string x.1.1 :: x.2 :: flatF l
theorem flatF_len : ∀ l, (flatF l).length = 2 * l.length
  | [] => rfl
  | x :: l => by simp only [flatF, List.length_cons, flatF_len l]; omega
theorem flatF_app : ∀ a b, flatF (a ++ b) = flatF a ++ flatF b
  | [], b => rfl
  | x :: a, b => by simp only [List.cons_append, flatF, flatF_app a b]
theorem flatF_get : ∀ (l : List (FR × Value)) (i : Nat) (h : i < l.length), (flatF l)[2 * i]? = some (.string l[i].1.1) ∧ (flatF l)[2 * i + 1]? = some l[i].2
  | x :: l, 0, _ => ⟨rfl, rfl⟩
  | x :: l, i + 1, h => by
    have := flatF_get l i (by simpa using h)
    rw [show 2 * (i + 1) = 2 * i + 2 by omega]
    exact this
/-- A list of fields of the call's own. -/
structure FOwn (base : Nat) (v : Value) (X : List (FR × Value)) (W : World) : Prop where
  row : W.ownsRow base 82 2 v X.length (flatF X)
  txs : ∀ x ∈ X, Txs base x.2 x.1.2 W
theorem infoF : (Tryz.prog.info? 82).map (fun i => (i.zero, i.size, i.bytes)) = some (some (.agg #[.string ⟨#[]⟩, .slice none 0 0]), 2, 40) := by kernel_rfl
theorem FOwn.nil (base : Nat) (W : World) : FOwn base (.slice none 0 0) [] W := ⟨World.ownsRow_nil _ _ _ _, fun _ h => by cases h⟩
theorem FOwn.below {base : Nat} {v : Value} {X : List (FR × Value)} {W W' : World} (h : FOwn base v X W) (hb : Below W.heap.size W W') : FOwn base v X W' := ⟨pw_own_below h.row hb, fun x hx => (h.txs x hx).below hb⟩
structure FS (w : World) (v : Value) (X : List (FR × Value)) (W : World) : Prop where
  own : FOwn w.heap.size v X W
  low : Below w.heap.size w W
theorem FS.below {w : World} {v : Value} {X : List (FR × Value)} {W W' : World} (h : FS w v X W) (hb : Below W.heap.size W W') : FS w v X W' := ⟨h.own.below hb, bth h.low hb⟩
section
variable {ops : Array Oper} {rest : List Oper} {o : Oper} {a : Act} {Q : Exit → Act → World → Prop}
/-- append(out, f). -/
theorem app_field (w0 w : World) (hgd : o.guard = none) (s x : Operand) (ho : o.op = .call { callee := .builtin .append, args := #[s, x], argTypes := #[79, 79] })
    (v : Value) (X : List (FR × Value)) (f : FR) (r : Value) (hs : a.eval s = v) (hx : a.eval x = .slice (some ⟨w.heap.size, 0, none⟩) 1 1) (HO : FS w0 v X w) (hr : Txs w0.heap.size r f.2 w) (hr1 : r.oneCell' = true) (hl : X.length + 1 ≤ 3000000000000)
    (h : ∀ v1 w1, FS w0 v1 (X ++ [(f, r)]) w1 → wpList Tryz.prog ops Q rest (a.put o.dst v1) w1) :
    wpList Tryz.prog ops Q (o :: rest) a (w.alloc (.cells #[.string f.1, r] 82)) := by
  obtain ⟨i0, hi, hz0, hz1, hz2⟩ := info_parts infoF
  have hlow := HO.low.size
  refine wpList_append_own _ hgd s x 79 ho w0.heap.size 82 i0 _ 2 40 Tryz.underlying79 hi hz0 hz1 hz2 rfl (by decide) v X.length (flatF X) hs (World.ownsRow.alloc HO.own.row _) ⟨w.heap.size, 0, none⟩ 1 1 [.string f.1, r] hx rfl ?c1 ?c2 ?c3 ?c4 ?c5 ?_
  case c1 =>
    intro j u hj
    match j, hj with
    | 0, hj => simp at hj; subst hj; simp [Addr.add]
    | 1, hj => simp at hj; subst hj; simp [Addr.add]
  case c2 => intro u hu; simp at hu; rcases hu with rfl | rfl; rfl; exact hr1
  case c3 => unfold maxLen; omega
  case c4 => omega
  case c5 => simp; omega
  intro v1 w1 hown hg _
  have hg2 : w.grownBy w1 v.ownBlock := ⟨hg.os, hg.tape, hg.output, by have := hg.size; simp at this; omega, fun k hk hr => (hg.block k (by simp; omega) hr).trans (Lib.alloc_old w _ k hk)⟩
  have far : ∀ {u : Value} {l : List ByteArray}, Txs w0.heap.size u l w → Txs w0.heap.size u l w1 := fun {u l} hu => own_other hu hg2 (own_type_ne hu HO.own.row (by decide))
  refine h v1 w1 ⟨⟨?_, fun y hy => ?_⟩, HO.low.grown hg2 hlow (fun k hk => own_base HO.own.row k hk)⟩
  · rw [List.length_append, List.length_singleton, flatF_app]
    exact hown
  · rw [List.mem_append, List.mem_singleton] at hy
    rcases hy with hy | rfl
    · exact far (HO.own.txs y hy)
    · exact far hr
end
end Go.Proofs.YtlicjpbmlmongaaGreatDoor.C

end
section
/- A text taken out of a list of the call's own; views.fields. -/
set_option linter.unusedVariables false
set_option linter.unusedSimpArgs false
namespace Go.Proofs.YtlicjpbmlmongaaGreatDoor.C
open Go.RowKit Go.Proofs Go.Proofs.YtlicjpbmlmongaaGreatDoor.H Go.Proofs.YtlicjpbmlmongaaGreatDoor.S Go.Proofs.YtlicjpbmlmongaaGreatDoorW.PrintWords

theorem heap_setCells (b : Nat) (t : TypeId) : ∀ (vs : List Value) (o : Nat) (cur : Array Value) (W : World), W.heap[b]? = some (.cells cur t (0, 0)) → o + vs.length ≤ cur.size →
    ∃ cur' : Array Value, (W.setCells b o vs).heap[b]? = some (.cells cur' t (0, 0)) ∧ cur'.size = cur.size ∧ cur'.toList = cur.toList.take o ++ vs ++ cur.toList.drop (o + vs.length)
  | [], o, cur, W, h, hl => ⟨cur, h, rfl, by simp⟩
  | v :: vs, o, cur, W, h, hl => by
    simp only [List.length_cons] at hl
    obtain ⟨cur', h1, h2, h3⟩ := heap_setCells b t vs (o + 1) (cur.setIfInBounds o v) (W.setCell ⟨b, o, none⟩ v) (heap_setCell_same _ _ _ _ _ _ h) (by simp; omega)
    refine ⟨cur', h1, by simpa using h2, ?_⟩
    rw [h3, Array.toList_setIfInBounds]
    have hl2 : o < cur.toList.length := by simp; omega
    rw [List.take_set, List.drop_set, if_pos (by omega), List.take_succ_eq_append_getElem hl2]
    have hlt : (cur.toList.take o).length = o := by rw [List.length_take]; omega
    rw [List.set_append_right _ _ (by omega), hlt, Nat.sub_self, List.set_cons_zero, show o + 1 + vs.length = o + (v :: vs).length by simp; omega]
    simp
theorem setCells_other (b k : Nat) (hk : k ≠ b) : ∀ (vs : List Value) (o : Nat) (W : World), (W.setCells b o vs).heap[k]? = W.heap[k]?
  | [], _, _ => rfl
  | v :: vs, o, W => (setCells_other b k hk vs (o + 1) _).trans (Below.heap_setCell _ _ _ k hk)
theorem setCells_rest (b : Nat) : ∀ (vs : List Value) (o : Nat) (W : World), (W.setCells b o vs).os = W.os ∧ (W.setCells b o vs).tape = W.tape ∧ (W.setCells b o vs).output = W.output ∧ (W.setCells b o vs).heap.size = W.heap.size
  | [], _, _ => ⟨rfl, rfl, rfl, rfl⟩
  | v :: vs, o, W => by
    obtain ⟨h1, h2, h3, h4⟩ := setCells_rest b vs (o + 1) (W.setCell ⟨b, o, none⟩ v)
    exact ⟨h1, h2, h3, h4.trans (by simp [World.setCell])⟩
/-- slices.Delete of one text. -/
theorem delete_calls (base g c i : Nat) (l : List ByteArray) (W : World) (h : Txs base (.slice (some ⟨g, 0, none⟩) l.length c) l W) (hi : i < l.length) :
    Calls Tryz.prog 124 #[.slice (some ⟨g, 0, none⟩) l.length c, .int .i64 (i : Int), .int .i64 ((i + 1 : Nat) : Int)] W fun e w' => e = .returned (.slice (some ⟨g, 0, none⟩) (l.length - 1) c) ∧ Txs base (.slice (some ⟨g, 0, none⟩) (l.length - 1) c) (l.eraseIdx i) w' ∧ W.grownBy w' (some g) := by
  obtain ⟨hc1, hc2⟩ := twin_cap h
  have hcells : ∀ j, j < l.length → W.cell? ⟨g, 0 + j, none⟩ = some (.string (l.getD j ⟨#[]⟩)) := fun j hj => by
    rw [Nat.zero_add, own_at h j hj, List.getD_eq_getElem?_getD, List.getElem?_eq_getElem hj]; rfl
  obtain ⟨cur, hg0, hg1, hg2, hg3, hg4⟩ : ∃ cur, W.heap[g]? = some (.cells cur 9 (0, 0)) ∧ base ≤ g ∧ cur.size = c ∧ c ≤ maxLen ∧ cur.toList.take l.length = strs l := by
    rcases h.2 with ⟨h1, h0⟩ | ⟨g', cap', cur, he, c1, c2, c3, c4, c5, c6⟩
    · cases h1
    · cases he
      exact ⟨cur, c2, c1, by omega, c4, by rw [Nat.mul_one] at c6; exact c6⟩
  refine (Tryz.slices_Delete_string_cells g 0 l.length c i (i + 1) (fun j => l.getD j ⟨#[]⟩) W hc1 (by unfold maxLen at hc2; omega) (by omega) hi hcells (fun j _ => Lib.frozen_of_heap hg0 _)).mono ?_
  rintro e w' ⟨rfl, q, rfl⟩
  have hln : l.length - (i + 1 - i) = l.length - 1 := by omega
  rw [hln]
  have hso : Lib.strsOf (fun j => l.getD j ⟨#[]⟩) l.length = l.map fun x => x.data.toList := by
    apply List.ext_getElem?
    intro j
    unfold Lib.strsOf
    rw [List.getElem?_map, List.getElem?_map]
    by_cases hj : j < l.length
    · rw [List.getElem?_range hj, List.getElem?_eq_getElem hj]
      simp [List.getD_eq_getElem?_getD, List.getElem?_eq_getElem hj]
    · rw [List.getElem?_eq_none (by simp; omega), List.getElem?_eq_none (by omega)]; rfl
  have hvs : ((Lib.strsOf (fun j => l.getD j ⟨#[]⟩) l.length).take i ++ (Lib.strsOf (fun j => l.getD j ⟨#[]⟩) l.length).drop (i + 1) ++ List.replicate (i + 1 - i) []).map encStr = strs (l.eraseIdx i) ++ [.string ⟨#[]⟩] := by
    rw [hso, List.eraseIdx_eq_take_drop_succ]
    simp only [strs, List.map_append, List.map_take, List.map_drop, List.map_map, show i + 1 - i = 1 by omega, List.replicate_one, List.map_cons, List.map_nil]
    rfl
  rw [hvs]
  have hel : (l.eraseIdx i).length = l.length - 1 := by rw [List.length_eraseIdx, if_pos hi]
  obtain ⟨cur', k1, k2, k3⟩ := heap_setCells g 9 (strs (l.eraseIdx i) ++ [.string ⟨#[]⟩]) 0 cur (W.drewN q) hg0 (by rw [List.length_append, strs_length, hel, List.length_singleton]; omega)
  obtain ⟨r1, r2, r3, r4⟩ := setCells_rest g (strs (l.eraseIdx i) ++ [.string ⟨#[]⟩]) 0 (W.drewN q)
  refine ⟨rfl, ⟨by rw [strs_length, Nat.mul_one], .inr ⟨g, c, cur', by rw [hel], hg1, k1, by omega, hg3, by omega, ?_⟩⟩, ⟨r1, r2, r3, by rw [r4]; exact Nat.le_refl _, fun k _ hk => setCells_other g k (fun e => hk (by rw [e])) _ _ _⟩⟩
  rw [k3, List.take_zero, List.nil_append, Nat.mul_one, List.append_assoc]
  exact List.take_left' (by rw [strs_length])
theorem txs_slice {base : Nat} {v : Value} {l : List ByteArray} {W : World} (h : Txs base v l W) (h0 : 0 < l.length) : ∃ g c, v = .slice (some ⟨g, 0, none⟩) l.length c ∧ base ≤ g := by
  rcases h.2 with ⟨_, h1⟩ | ⟨g, cap, cur, he, c1, _⟩
  · omega
  · exact ⟨g, cap, he, c1⟩
/-- slices.Clone of a list that is not empty. -/
theorem clone_calls (base g c : Nat) (l : List ByteArray) (W : World) (h : Txs base (.slice (some ⟨g, 0, none⟩) l.length c) l W) (h0 : 0 < l.length) (hl : l.length ≤ 8000000000000) :
    Calls Tryz.prog 125 #[.slice (some ⟨g, 0, none⟩) l.length c] W fun e w' => ∃ g2 c2, e = .returned (.slice (some ⟨g2, 0, none⟩) l.length c2) ∧ Txs W.heap.size (.slice (some ⟨g2, 0, none⟩) l.length c2) l w' ∧ W.heap.size ≤ g2 ∧ Below W.heap.size W w' := by
  refine (Tryz.slices_Clone_string g 0 l.length c l W (Nat.le_refl _) (by omega) (fun j hj => by rw [Nat.zero_add, own_at h j hj, List.getD_eq_getElem?_getD, List.getElem?_eq_getElem hj]; rfl)).mono ?_
  rintro e w' ⟨v, rfl, ho, _, hb⟩
  rw [List.take_length] at ho
  have ht : Txs W.heap.size v l w' := ho
  obtain ⟨g2, c2, rfl, hg⟩ := txs_slice ht h0
  exact ⟨g2, c2, rfl, ht, hg, hb⟩
theorem lfields_calls (s : ByteArray) (c : Int) (hs : s.size ≤ 8796093022000) (w : World) : Calls Tryz.prog 123 #[.string s, .int .u8 c] w fun e W' => ∃ v, e = .returned v ∧ TS w v (fieldsOf s c) W' :=
  (callsIn_wide.1 (fields_in Fence.wide 10 trivial trivial trivial trivial trivial trivial trivial rfl (by omega) s c hs w)).mono fun e w' ⟨v, h1, h2, h3⟩ => ⟨v, h1, h2, h3⟩
end Go.Proofs.YtlicjpbmlmongaaGreatDoor.C

end
section
/- views.fields: the walk. -/
set_option linter.unusedVariables false
set_option linter.unusedSimpArgs false
namespace Go.Proofs.YtlicjpbmlmongaaGreatDoor.C
open Go.RowKit Go.Proofs Go.Proofs.YtlicjpbmlmongaaGreatDoor.H Go.Proofs.YtlicjpbmlmongaaGreatDoor.S Go.Proofs.YtlicjpbmlmongaaGreatDoorW.PrintWords

/-- Fields that are as the lines', each one's others somewhere. -/
def AsF (c : Int) (n : Nat) (l : List ByteArray) (X : List (FR × Value)) : Prop := X.map (·.1) = l.map (fieldP c n)
theorem AsF.snoc {c : Int} {n : Nat} {l : List ByteArray} {k : Nat} (hk : k < l.length) {X : List (FR × Value)} (h : AsF c n (l.take k) X) {f : FR} (hf : f = fieldP c n l[k]) (r : Value) : AsF c n (l.take (k + 1)) (X ++ [(f, r)]) := by
  unfold AsF at *
  rw [List.take_succ_eq_append_getElem hk, List.map_append, List.map_append, h, hf]; rfl
theorem fieldsOf_len (s : ByteArray) (c : Int) : (fieldsOf s c).length ≤ s.size + 1 := by
  have h : ∀ p : UInt8 → Bool, (partsOf p s).length ≤ s.size + 1 := fun p => by
    unfold partsOf
    rw [List.length_append, List.length_singleton]
    have := partsTo_len p s s.size
    omega
  unfold fieldsOf
  split
  · exact Nat.le_trans (List.length_filter_le _ _) (h _)
  · exact h _
/-- The state in the region: nothing of what stood has turned but the box. -/
structure RG (w V : World) : Prop where
  low : Below w.heap.size w V
  size : w.heap.size + 1 ≤ V.heap.size
  box : ∃ c0 c1, V.heap[w.heap.size]? = some (.cells #[c0, c1] 82 (0, 0))
def cur (V : World) (p : Addr) : Value := (V.cell? p).getD (.string ⟨#[]⟩)
theorem RG.below {w V V' : World} (h : RG w V) (hb : Below V.heap.size V V') : RG w V' := ⟨bth h.low hb, Nat.le_trans h.size hb.size, let ⟨c0, c1, hx⟩ := h.box; ⟨c0, c1, (hb.block _ (by have := h.size; omega)).trans hx⟩⟩
theorem RG.drew {w V : World} (h : RG w V) : RG w V.drew := h.below (bdr (Below.refl _ _))
theorem RG.grown {w V V' : World} {g : Nat} (h : RG w V) (hb : V.grownBy V' (some g)) (hg : w.heap.size < g) : RG w V' := ⟨h.low.grown hb h.low.size (fun k hk => by injection hk with hk; omega), Nat.le_trans h.size hb.size, let ⟨c0, c1, hx⟩ := h.box; ⟨c0, c1, (hb.block _ (by have := h.size; omega) (fun e => by injection e; omega)).trans hx⟩⟩
theorem RG.set0 {w V : World} (h : RG w V) (x : Value) : RG w (V.setCell ⟨w.heap.size, 0, none⟩ x) := ⟨h.low.setCell (p := ⟨w.heap.size, 0, none⟩) (Nat.le_refl _) x, by simpa [World.setCell] using h.size, let ⟨c0, c1, hx⟩ := h.box; ⟨x, c1, by rw [heap_setCell_same _ _ _ _ _ _ hx]; rfl⟩⟩
theorem RG.set1 {w V : World} (h : RG w V) (x : Value) : RG w (V.setCell ⟨w.heap.size, 1, none⟩ x) := ⟨h.low.setCell (p := ⟨w.heap.size, 1, none⟩) (Nat.le_refl _) x, by simpa [World.setCell] using h.size, let ⟨c0, c1, hx⟩ := h.box; ⟨c0, x, by rw [heap_setCell_same _ _ _ _ _ _ hx]; rfl⟩⟩
theorem RG.cell0 {w V : World} (h : RG w V) : V.cell? ⟨w.heap.size, 0, none⟩ = some (cur V ⟨w.heap.size, 0, none⟩) := by obtain ⟨c0, c1, hx⟩ := h.box; unfold cur; rw [Lib.cell_of_heap hx]; rfl
theorem RG.cell1 {w V : World} (h : RG w V) : V.cell? ⟨w.heap.size, 1, none⟩ = some (cur V ⟨w.heap.size, 1, none⟩) := by obtain ⟨c0, c1, hx⟩ := h.box; unfold cur; rw [Lib.cell_of_heap hx]; rfl
theorem RG.fr {w V : World} (h : RG w V) (o : Nat) : V.frozen? ⟨w.heap.size, o, none⟩ = false := by obtain ⟨c0, c1, hx⟩ := h.box; exact Lib.frozen_of_heap hx o
def CloneAt (W : World) (g c : Nat) (F : List ByteArray) (V : World) : Prop := Txs (W.heap.size + 1) (.slice (some ⟨g, 0, none⟩) F.length c) F V
def DeleteAt (W : World) (g c n : Nat) (F : List ByteArray) (V : World) : Prop := Txs (W.heap.size + 1) (.slice (some ⟨g, 0, none⟩) n c) F V
set_option maxHeartbeats 4000000 in
set_option maxRecDepth 100000 in
theorem vfields_calls (A : Option Addr) (cap : Nat) (l : List ByteArray) (n : Nat) (hn1 : 1 ≤ n) (hn2 : n ≤ 1000) (c : Int) (w : World) (hr : Kd.C Kd.string w A l.length l) (hc : l.length ≤ cap) (hl : l.length ≤ 1000000) (hs : ∀ s ∈ l, s.size ≤ 100000000) :
    Calls Tryz.prog 77 #[.slice A l.length cap, .int .i64 (n : Int), .int .u8 c] w fun e w' => ∃ v X, e = .returned v ∧ AsF c n l X ∧ FS w v X w' := by
  have HR := Lib.hid hr
  have HS := Lib.hid hs
  clear hr hs
  go_enter Tryz.func77, Tryz.ntmps77
  go_wp2
  go_loopw [6, 13] (fun v i wr => ∃ (k : Nat) (X : List (FR × Value)), k ≤ l.length ∧ i = .int .i64 (k : Int) ∧ X.length = k ∧ Hid (AsF c n (l.take k) X ∧ FS w v X wr)) (fun _ i _ => l.length - (intOf i).toNat)
  case atStart => exact ⟨0, [], Nat.zero_le _, rfl, rfl, Lib.hid ⟨rfl, FOwn.nil _ _, Below.refl _ _⟩⟩
  case round =>
    obtain ⟨k, X, hk, rfl, hX, hst⟩ := hrel
    have HX := Lib.hid hX
    clear hX
    by_cases hlt : k < l.length
    · obtain ⟨ad, rfl, hx⟩ := C_at HR.out hst.out.2.low k hlt
      have hsz := HS.out l[k] (List.getElem_mem hlt)
      obtain ⟨s, hse⟩ : ∃ s, l[k] = s := ⟨_, rfl⟩
      rw [hse] at hx hsz
      have HSE := Lib.hid hse
      clear hse
      go_wp2_with fail
      refine (lfields_calls s c (by omega) _).mono ?_
      rintro e w1 ⟨v1, rfl, ht1⟩
      obtain ⟨A1, c1, rfl, hc1, hC1⟩ := ht1.txs.reads
      have T1 := Lib.hid ht1
      have S1 := Lib.hid (hst.out.2.below ht1.low)
      have hfl : (fieldsOf s c).length ≤ 100000001 := by have := fieldsOf_len s c; omega
      obtain ⟨F, hF⟩ : ∃ F, fieldsOf s c = F := ⟨_, rfl⟩
      rw [hF] at hc1 T1 hfl ht1
      have HF := Lib.hid hF
      have hx30 : Txs w.heap.size (.slice A1 F.length c1) F w1 := own_weaken ht1.txs hst.out.2.low.size
      have TX := Lib.hid hx30
      have hsk := Lib.hid (And.intro HSE.out hlt)
      have hz1 : w.heap.size ≤ w1.heap.size := Nat.le_trans hst.out.2.low.size ht1.low.size
      rw [hF]
      clear hC1 ht1 hx hF hx30
      by_cases hnf : n ≤ F.length
      · obtain ⟨m, hmn⟩ : ∃ m, n = m + 1 := ⟨n - 1, by omega⟩
        have hmF : m < F.length := by omega
        obtain ⟨fm, hfm⟩ : ∃ x, F[m]'hmF = x := ⟨_, rfl⟩
        have HFM := Lib.hid hfm
        clear hfm
        obtain ⟨g1, c1', hv1, hg1⟩ := txs_slice TX.out (by omega)
        obtain ⟨rfl, rfl⟩ : A1 = some ⟨g1, 0, none⟩ ∧ c1 = c1' := by injection hv1 with h1 h2 h3; exact ⟨h1, h3⟩
        have hfp := Lib.hid (show ((fm, F.eraseIdx m) : FR) = fieldP c n s by
          subst hmn; unfold fieldP
          rw [HF.out, if_pos hnf, Nat.add_sub_cancel, List.getD_eq_getElem?_getD, List.getElem?_eq_getElem hmF, ← HFM.out]; rfl)
        have hle := Lib.hid (show (F.eraseIdx m).length = F.length - 1 by rw [List.length_eraseIdx, if_pos (by omega)])
        obtain ⟨W2, hW2⟩ : ∃ W2, w1.alloc (.cells #[.string ⟨#[]⟩, .slice (some ⟨g1, 0, none⟩) F.length c1] 82) = W2 := ⟨_, rfl⟩
        have b2 : Below w1.heap.size w1 W2 := by rw [← hW2]; exact bal (Below.refl _ _) _
        have z2 : W2.heap.size = w1.heap.size + 1 := by rw [← hW2, World.size_alloc]
        have x2 : W2.heap[w1.heap.size]? = some (.cells #[.string ⟨#[]⟩, .slice (some ⟨g1, 0, none⟩) F.length c1] 82 (0, 0)) := by rw [← hW2]; exact heap_alloc_new _ _
        have HW2 := Lib.hid hW2
        have HX2 := Lib.hid (And.intro b2 (And.intro z2 x2))
        have hm1 : IntKind.i64.wrap ((n : Int) - 1) = (m : Int) := (IntWalk.i64_in _ (by omega)).trans (by omega)
        have hm5 : (n : Int) - 1 = (m : Int) := by omega
        have hm6 : IntKind.i64.wrap (m : Int) = (m : Int) := IntWalk.i64_in _ (by omega)
        have hm0 : (0 : Int) ≤ (m : Int) := Int.natCast_nonneg _
        have hm2 : (m : Int) < (F.length : Int) := by omega
        have hm3 : (0 : Int) ≤ (n : Int) := Int.natCast_nonneg _
        have hm4 : (n : Int) ≤ (F.length : Int) := by omega
        have HMN := Lib.hid hmn
        clear hW2 b2 z2 x2 hv1 hmn
        go_upto_region 7 with (fail)
        rw [HW2.out]
        have HRG : Hid (RG w1 W2) := Lib.hid ⟨HX2.out.1, by rw [HX2.out.2.1]; exact Nat.le_refl _, _, _, HX2.out.2.2⟩
        have hg1f : g1 < w1.heap.size := World.block_lt_of_cell? _ _ (own_at TX.out m hmF)
        have HG1 := Lib.hid (show w1.cell? ⟨g1, m, none⟩ = some (.string fm) by have := own_at TX.out m hmF; rw [HFM.out] at this; exact this)
        have HALL := Lib.hid (show ∀ V, RG w1 V → RG w1 V ∧ (V.cell? ⟨g1, m, none⟩ = some (.string fm) ∧ V.cell? ⟨w1.heap.size, 0, none⟩ = some (cur V ⟨w1.heap.size, 0, none⟩) ∧ V.cell? ⟨w1.heap.size, 1, none⟩ = some (cur V ⟨w1.heap.size, 1, none⟩) ∧ V.frozen? ⟨w1.heap.size, 0, none⟩ = false ∧ V.frozen? ⟨w1.heap.size, 1, none⟩ = false) from fun V h => ⟨h, (h.low.cell (p := ⟨g1, m, none⟩) hg1f).trans HG1.out, h.cell0, h.cell1, h.fr 0, h.fr 1⟩)
        have HCL := Lib.hid (show ∀ V, RG w1 V → Calls Tryz.prog 125 #[.slice (some ⟨g1, 0, none⟩) F.length c1] V fun e w' => ∃ g2 c2, e = .returned (.slice (some ⟨g2, 0, none⟩) F.length c2) ∧ RG w1 w' ∧ CloneAt w1 g2 c2 F w' from fun V h => (clone_calls w.heap.size g1 c1 F V (TX.out.below h.low) (by omega) (by omega)).mono fun e w' ⟨g2, c2, e1, e2, e3, e4⟩ => ⟨g2, c2, e1, h.below e4, own_weaken e2 h.size⟩)
        have HDE := Lib.hid (show ∀ g2 c2 V, RG w1 V → CloneAt w1 g2 c2 F V → Calls Tryz.prog 124 #[.slice (some ⟨g2, 0, none⟩) F.length c2, .int .i64 (m : Int), .int .i64 (n : Int)] V fun e w' => e = .returned (.slice (some ⟨g2, 0, none⟩) (F.length - 1) c2) ∧ RG w1 w' ∧ DeleteAt w1 g2 c2 (F.length - 1) (F.eraseIdx m) w' from fun g2 c2 V h hc => by have hmn := HMN.out; subst hmn; exact (delete_calls (w1.heap.size + 1) g2 c2 m F V hc (by omega)).mono fun e w' ⟨e1, e2, e3⟩ => ⟨e1, h.grown e3 (by have := own_base hc g2 rfl; omega), e2⟩)
        clear hg1f
        go_region_held3 (fun V => RG w1 V ∧ (V.cell? ⟨g1, m, none⟩ = some (.string fm) ∧ V.cell? ⟨w1.heap.size, 0, none⟩ = some (cur V ⟨w1.heap.size, 0, none⟩) ∧ V.cell? ⟨w1.heap.size, 1, none⟩ = some (cur V ⟨w1.heap.size, 1, none⟩) ∧ V.frozen? ⟨w1.heap.size, 0, none⟩ = false ∧ V.frozen? ⟨w1.heap.size, 1, none⟩ = false)) (with_reducible first | assumption | exact HALL.out _ (by assumption) | exact HALL.out _ HRG.out.drew | exact HALL.out _ HRG.out | exact HALL.out _ ((RG.set0 (by assumption) _).set1 _)) ((first
          | (go_at_call 125; with_reducible refine (HCL.out _ (by first | exact (show RG w1 _ ∧ _ from by assumption).1 | exact HRG.out.drew | exact HRG.out)).mono ?_; rintro e w' ⟨g2, c2, rfl, hbq, htx⟩)
          | (go_at_call 124; with_reducible refine (HDE.out _ _ _ (by first | exact (show RG w1 _ ∧ _ from by assumption).1 | assumption) (by assumption)).mono ?_; rintro e w' ⟨rfl, hbq, htx⟩)))
        obtain ⟨W3, hW3⟩ : ∃ W3, (w'.setCell ⟨w1.heap.size, 0, none⟩ (.string fm)).setCell ⟨w1.heap.size, 1, none⟩ (.slice (some ⟨g2, 0, none⟩) (F.length - 1) c2) = W3 := ⟨_, rfl⟩
        rw [hW3]
        have r3 : RG w1 W3 := by rw [← hW3]; exact (hbq.set0 _).set1 _
        have x3 : W3.heap[w1.heap.size]? = some (.cells #[.string fm, .slice (some ⟨g2, 0, none⟩) (F.length - 1) c2] 82 (0, 0)) := by
          obtain ⟨d0, d1, hx⟩ := hbq.box
          rw [← hW3, heap_setCell_same _ _ _ _ _ _ (heap_setCell_same _ _ _ _ _ _ hx)]; rfl
        have t3 : Txs w.heap.size (.slice (some ⟨g2, 0, none⟩) (F.length - 1) c2) (F.eraseIdx m) W3 := by
          rw [← hW3]
          exact own_weaken (ownsRow_setCell_below (a := ⟨w1.heap.size, 1, none⟩) (ownsRow_setCell_below (a := ⟨w1.heap.size, 0, none⟩) htx (Nat.lt_succ_self _) _) (Nat.lt_succ_self _) _) (by omega)
        have SB := Lib.hid (S1.out.below r3.low)
        have TB := Lib.hid t3
        have X3 := Lib.hid x3
        have R3 := Lib.hid r3
        clear hW3 r3 x3 t3 hbq htx
        have x30 : W3.cell? ⟨w1.heap.size, 0, none⟩ = some (.string fm) := by rw [Lib.cell_of_heap X3.out]; rfl
        have x31 : W3.cell? ⟨w1.heap.size, 1, none⟩ = some (.slice (some ⟨g2, 0, none⟩) (F.length - 1) c2) := by rw [Lib.cell_of_heap X3.out]; rfl
        go_wp2_with (at_builtin; go_loud (refine app_field w W3 rfl (.tmp 38) (.tmp 40) rfl u6 X (fm, F.eraseIdx m) (.slice (some ⟨g2, 0, none⟩) (F.length - 1) c2) rfl rfl SB.out TB.out rfl (by have := HX.out; omega) ?_))
        intro v2 w2 h2
        have H2 := Lib.hid h2
        clear h2
        go_wp2
        go_roundw
        case rel => exact ⟨k + 1, X ++ [((fm, F.eraseIdx m), .slice (some ⟨g2, 0, none⟩) (F.length - 1) c2)], by omega, by go_num, by rw [List.length_append, List.length_singleton, HX.out], Lib.hid ⟨AsF.snoc hsk.out.2 hst.out.1 (by rw [hfp.out, hsk.out.1]) _, H2.out⟩⟩
        case measure => simp [intOf]; omega
      · have hfp := Lib.hid (show ((⟨#[]⟩, F) : FR) = fieldP c n s by unfold fieldP; rw [HF.out, if_neg hnf])
        obtain ⟨W2, hW2⟩ : ∃ W2, w1.alloc (.cells #[.string ⟨#[]⟩, .slice A1 F.length c1] 82) = W2 := ⟨_, rfl⟩
        have b2 : Below w1.heap.size w1 W2 := by rw [← hW2]; exact bal (Below.refl _ _) _
        have z2 : W2.heap.size = w1.heap.size + 1 := by rw [← hW2, World.size_alloc]
        have x2 : W2.heap[w1.heap.size]? = some (.cells #[.string ⟨#[]⟩, .slice A1 F.length c1] 82 (0, 0)) := by rw [← hW2]; exact heap_alloc_new _ _
        have HW2 := Lib.hid hW2
        have HX2 := Lib.hid (And.intro b2 (And.intro z2 x2))
        have SB := Lib.hid (S1.out.below HX2.out.1)
        have TB := Lib.hid (TX.out.below HX2.out.1)
        clear hW2 b2 z2 x2
        have hx40 : Value.slice (some ⟨w1.heap.size + 1, 0, none⟩) 1 1 = Value.slice (some ⟨W2.heap.size, 0, none⟩) 1 1 := by rw [HX2.out.2.1]
        have HX40 := Lib.hid hx40
        clear hx40
        go_wp2_with (at_builtin; rw [HW2.out]; go_loud (refine app_field w W2 rfl (.tmp 38) (.tmp 40) rfl u6 X (⟨#[]⟩, F) (.slice A1 F.length c1) rfl HX40.out SB.out TB.out rfl (by have := HX.out; omega) ?_))
        intro v2 w2 h2
        have H2 := Lib.hid h2
        clear h2
        go_wp2
        go_roundw
        case rel => exact ⟨k + 1, X ++ [(((⟨#[]⟩, F) : FR), .slice A1 F.length c1)], by omega, by go_num, by rw [List.length_append, List.length_singleton, HX.out], Lib.hid ⟨AsF.snoc hsk.out.2 hst.out.1 (by rw [hfp.out, hsk.out.1]) _, H2.out⟩⟩
        case measure => simp [intOf]; omega
    · obtain rfl : k = l.length := by omega
      have e := hst.out
      rw [List.take_length] at e
      have HE := Lib.hid e
      clear e
      go_wp2
      go_ret
      exact ⟨_, X, rfl, HE.out.1, HE.out.2⟩
end Go.Proofs.YtlicjpbmlmongaaGreatDoor.C

end
section
/- views.Join's closure, slices.IsSortedFunc over fields. -/
set_option linter.unusedVariables false
set_option linter.unusedSimpArgs false
namespace Go.Proofs.YtlicjpbmlmongaaGreatDoor.C
open Go.RowKit Go.Proofs Go.Proofs.YtlicjpbmlmongaaGreatDoor.H Go.Proofs.YtlicjpbmlmongaaGreatDoor.S Go.Proofs.YtlicjpbmlmongaaGreatDoorW.PrintWords

/-- Is text a ahead of b? -/
def ltB (a b : ByteArray) : Bool := Op.bytesLess a.toList b.toList
theorem cmp_less : ∀ a b : List UInt8, (Lib.compareBytes a b < 0) ↔ Op.bytesLess a b = true
  | [], [] => by simp [Lib.compareBytes, Op.bytesLess]
  | [], _ :: _ => by simp [Lib.compareBytes, Op.bytesLess]
  | _ :: _, [] => by simp [Lib.compareBytes, Op.bytesLess]
  | a :: x, b :: y => by
    have ih := cmp_less x y
    simp only [Lib.compareBytes, Op.bytesLess]
    by_cases h1 : a < b
    · simp [h1]
    · by_cases h2 : b < a
      · have h3 : ¬ a = b := fun e => by subst e; exact UInt8.lt_irrefl _ h2
        simp [h1, h2, h3]
      · have h3 : a = b := UInt8.le_antisymm (UInt8.not_lt.1 h2) (UInt8.not_lt.1 h1)
        subst h3
        simp [ih, UInt8.lt_irrefl]
theorem cmp_lt (a b : ByteArray) : decide (Lib.compareBytes a.data.toList b.data.toList < 0) = ltB a b := by
  unfold ltB
  rw [Lib.toList_data, Lib.toList_data]
  cases h : Op.bytesLess a.data.toList b.data.toList with
  | true => exact decide_eq_true ((cmp_less _ _).2 h)
  | false => exact decide_eq_false fun e => by rw [(cmp_less _ _).1 e] at h; cases h
/-- No field is ahead of the one before it, among the first n + 1. -/
def downP (d : List ByteArray) : Nat → Bool
  | 0 => true
  | i + 1 => !ltB (d.getD (i + 1) ⟨#[]⟩) (d.getD i ⟨#[]⟩) && downP d i
def sortedP (d : List ByteArray) : Bool := downP d (d.length - 1)
theorem by_calls (x y : ByteArray) (A1 A2 : Option Addr) (n1 c1 n2 c2 : Nat) (w : World) :
    Calls Tryz.prog 78 #[.agg #[.string x, .slice A1 n1 c1], .agg #[.string y, .slice A2 n2 c2]] w fun e w' => e = .returned (.int .i64 (Lib.compareBytes x.data.toList y.data.toList)) ∧ Below w.heap.size w w' := by
  go_enter Tryz.func78, Tryz.ntmps78
  go_wp2_with fail
  refine (Tryz.strings_Compare x y _).mono ?_
  rintro e w1 ⟨rfl, rfl⟩
  go_wp2
  go_ret
  exact ⟨rfl, bal (bal (Below.refl _ _) _) _⟩
/-- What is read of a list of fields. -/
theorem FOwn.reads {base : Nat} {v : Value} {X : List (FR × Value)} {W : World} (h : FOwn base v X W) : ∃ A c, v = .slice A X.length c ∧ X.length ≤ c ∧ c ≤ maxLen ∧ (0 < X.length → ∃ g, A = some ⟨g, 0, none⟩ ∧ base ≤ g ∧ g < W.heap.size ∧ ∀ i (hi : i < X.length), W.cell? ⟨g, i * 2, none⟩ = some (.string X[i].1.1) ∧ W.cell? ⟨g, i * 2 + 1, none⟩ = some X[i].2) := by
  rcases h.row.2 with ⟨h1, h2⟩ | ⟨g, cap, cur, h1, h3, h4, h5, h6, h7⟩
  · exact ⟨none, 0, by rw [h1, h2], by omega, by unfold maxLen; omega, fun h0 => by omega⟩
  · refine ⟨_, cap, h1, h5, h6, fun _ => ⟨g, rfl, h3, (Array.getElem?_eq_some_iff.1 h4).1, fun i hi => ?_⟩⟩
    obtain ⟨e1, e2⟩ := flatF_get X i hi
    have r := h.row
    rw [h1] at r
    exact ⟨by rw [Nat.mul_comm]; have := r.cells (g := g) rfl (2 * i) _ e1; simpa [add_plain] using this, by rw [Nat.mul_comm]; have := r.cells (g := g) rfl (2 * i + 1) _ e2; simpa [add_plain] using this⟩
set_option maxHeartbeats 4000000 in
set_option maxRecDepth 100000 in
theorem sorted_calls (base : Nat) (v : Value) (X : List (FR × Value)) (w : World) (h : FOwn base v X w) (hl : X.length ≤ 1000000) :
    Calls Tryz.prog 80 #[v, .func (.func 78) #[] #[]] w fun e w' => e = .returned (.bool (sortedP (X.map (·.1.1)))) ∧ Below w.heap.size w w' := by
  obtain ⟨A, c, rfl, hc, hc2, hcells⟩ := h.reads
  have HX := Lib.hid (show ∀ x ∈ X, ∃ A n c, x.2 = .slice A n c from fun x hx => by obtain ⟨A, c, e, _, _⟩ := (h.txs x hx).reads; exact ⟨A, _, c, e⟩)
  have HC := Lib.hid hcells
  obtain ⟨N, hN⟩ : ∃ N, X.length = N := ⟨_, rfl⟩
  rw [hN] at hc hl ⊢
  have HN := Lib.hid hN
  clear h hcells hN
  go_enter Tryz.func80, Tryz.ntmps80
  go_wp2
  go_loopw [5] (fun i wr => ∃ iz : Int, i = .int .i64 iz ∧ iz < N ∧ -1 ≤ iz ∧ Hid (downP (X.map (·.1.1)) (N - 1) = downP (X.map (·.1.1)) iz.toNat ∧ Below w.heap.size w wr)) (fun i _ => (intOf i).toNat)
  case atStart => exact ⟨(N : Int) - 1, rfl, by omega, by omega, Lib.hid ⟨by congr 1; omega, Below.refl _ _⟩⟩
  case round =>
    obtain ⟨iz, rfl, h1, h2, hr⟩ := hrel
    by_cases hp : 0 < iz
    · obtain ⟨t, rfl⟩ : ∃ t : Nat, iz = ((t + 1 : Nat) : Int) := ⟨iz.toNat - 1, by omega⟩
      obtain ⟨q, hq⟩ : ∃ q, t + 1 = q := ⟨_, rfl⟩
      rw [hq] at h1 h2 hp hr ⊢
      have hqN : q < X.length := by rw [HN.out]; omega
      have htN : t < X.length := by rw [HN.out]; omega
      obtain ⟨g, rfl, hg1, hg2, hcl⟩ := HC.out (by rw [HN.out]; omega)
      obtain ⟨x, hx⟩ : ∃ x, X[q] = x := ⟨_, rfl⟩
      obtain ⟨y, hy⟩ : ∃ y, X[t] = y := ⟨_, rfl⟩
      obtain ⟨A1, n1, c1, e1⟩ := HX.out x (hx ▸ List.getElem_mem hqN)
      obtain ⟨A2, n2, c2, e2⟩ := HX.out y (hy ▸ List.getElem_mem htN)
      have l1 := hcl q hqN
      have l2 := hcl t htN
      rw [hx, e1] at l1
      rw [hy, e2] at l2
      have HXY := Lib.hid (And.intro hx (And.intro hy hq))
      have d1 : IntKind.i64.wrap ((q : Int) - 1) = (t : Int) := (IntWalk.i64_in _ (by omega)).trans (by omega)
      have d2 : (q : Int) - 1 = (t : Int) := by omega
      have d3 : IntKind.i64.wrap (t : Int) = (t : Int) := IntWalk.i64_in _ (by omega)
      have b1 : (0 : Int) ≤ (q : Int) := Int.natCast_nonneg _
      have b2 : (q : Int) < (N : Int) := by omega
      have b3 : (0 : Int) ≤ (t : Int) := Int.natCast_nonneg _
      have b4 : (t : Int) < (N : Int) := by omega
      have HS := Lib.hid (show ∀ V, Below w.heap.size w V → V.cell? ⟨g, q * 2, none⟩ = some (.string x.1.1) ∧ V.cell? ⟨g, q * 2 + 1, none⟩ = some (.slice A1 n1 c1) ∧ V.cell? ⟨g, t * 2, none⟩ = some (.string y.1.1) ∧ V.cell? ⟨g, t * 2 + 1, none⟩ = some (.slice A2 n2 c2) from fun V h => ⟨(h.cell (p := ⟨g, _, none⟩) hg2).trans l1.1, (h.cell (p := ⟨g, _, none⟩) hg2).trans l1.2, (h.cell (p := ⟨g, _, none⟩) hg2).trans l2.1, (h.cell (p := ⟨g, _, none⟩) hg2).trans l2.2⟩)
      have HB := Lib.hid hr.out.2
      have HR := Lib.hid (show downP (X.map (·.1.1)) (N - 1) = (!ltB x.1.1 y.1.1 && downP (X.map (·.1.1)) t) by
        have r := hr.out.1
        rw [show ((q : Int)).toNat = t + 1 by omega] at r
        rw [r]
        simp only [downP]
        rw [hq, List.getD_eq_getElem?_getD, List.getD_eq_getElem?_getD, List.getElem?_map, List.getElem?_map, List.getElem?_eq_getElem hqN, List.getElem?_eq_getElem htN, hx, hy]
        rfl)
      clear hx hy hq hcl e1 e2 l1 l2 hr h1 h2
      go_upto_region 4 with (fail)
      go_region_held3 (fun V => Below w.heap.size w V ∧ V.cell? ⟨g, q * 2, none⟩ = some (.string x.1.1) ∧ V.cell? ⟨g, q * 2 + 1, none⟩ = some (.slice A1 n1 c1) ∧ V.cell? ⟨g, t * 2, none⟩ = some (.string y.1.1) ∧ V.cell? ⟨g, t * 2 + 1, none⟩ = some (.slice A2 n2 c2)) (with_reducible first | assumption | exact ⟨by assumption, HS.out _ (by assumption)⟩ | exact ⟨bdr HB.out, HS.out _ (bdr HB.out)⟩ | exact ⟨HB.out, HS.out _ HB.out⟩) ((first
        | (go_at_call 78; with_reducible refine (by_calls _ _ _ _ _ _ _ _ _).mono ?_; rintro e w' ⟨rfl, hbq⟩; have hbq := bth (show Below w.heap.size w _ ∧ _ from by assumption).1 hbq)))
      have hcmp := cmp_lt x.1.1 y.1.1
      cases hlt : ltB x.1.1 y.1.1 with
      | true =>
        rw [hlt] at hcmp
        have hc0 : Lib.compareBytes x.1.1.data.toList y.1.1.data.toList < 0 := of_decide_eq_true hcmp
        go_wp2
        go_ret
        refine ⟨?_, (show Below w.heap.size w _ ∧ _ from by assumption).1⟩
        unfold sortedP
        rw [List.length_map, HN.out, HR.out, hlt]
        rfl
      | false =>
        rw [hlt] at hcmp
        have hc0 : ¬ Lib.compareBytes x.1.1.data.toList y.1.1.data.toList < 0 := of_decide_eq_false hcmp
        go_wp2
        go_roundw
        case rel => exact ⟨(t : Int), rfl, by omega, by omega, Lib.hid ⟨by rw [HR.out, hlt]; rfl, (show Below w.heap.size w _ ∧ _ from by assumption).1⟩⟩
        case measure => simp [intOf]; omega
    · go_wp2
      go_ret
      refine ⟨?_, hr.out.2⟩
      have := hr.out.1
      rw [show iz.toNat = 0 by omega] at this
      unfold sortedP
      rw [List.length_map, HN.out, this]
      rfl
end Go.Proofs.YtlicjpbmlmongaaGreatDoor.C

end
section
/- views.pairs: the iterator. -/
set_option linter.unusedVariables false
set_option linter.unusedSimpArgs false
namespace Go.Proofs.YtlicjpbmlmongaaGreatDoor.C
open Go.RowKit Go.Shelf Go.BigFrame Go.Proofs Go.Proofs.YtlicjpbmlmongaaGreatDoor.H Go.Proofs.YtlicjpbmlmongaaGreatDoor.S Go.Proofs.YtlicjpbmlmongaaGreatDoorW.PrintWords

attribute [local go_sem] Oper.semAt_some
theorem bdrN {w W : World} (h : Below w.heap.size w W) (n : Nat) : Below w.heap.size w (W.drewN n) := ⟨h.os, h.tape, h.output, h.size, h.block⟩
/-- From place f on: the first text that is not ahead of x. -/
def adv (E : List ByteArray) (x : ByteArray) (f : Nat) : Nat := f + ((E.drop f).takeWhile (fun y => ltB y x)).length
/-- How many are x, from place f on. -/
def same (E : List ByteArray) (x : ByteArray) (f : Nat) : Nat := ((E.drop f).takeWhile (fun y => decide (y = x))).length
def froms (D E : List ByteArray) : Nat → Nat
  | 0 => 0
  | i + 1 => adv E (D.getD i ⟨#[]⟩) (froms D E i)
def rowI (D E : List ByteArray) (i : Nat) : List (Nat × Nat) := (List.range (same E (D.getD i ⟨#[]⟩) (froms D E (i + 1)))).map fun j => (i, froms D E (i + 1) + j)
def pairsI (D E : List ByteArray) : Nat → List (Nat × Nat)
  | 0 => []
  | i + 1 => pairsI D E i ++ rowI D E i
theorem adv_le (E : List ByteArray) (x : ByteArray) (f : Nat) (h : f ≤ E.length) : adv E x f ≤ E.length := by
  unfold adv
  have := (List.takeWhile_sublist (p := fun y => ltB y x) (l := E.drop f)).length_le
  rw [List.length_drop] at this
  omega
theorem froms_le (D E : List ByteArray) : ∀ i, froms D E i ≤ E.length
  | 0 => Nat.zero_le _
  | i + 1 => adv_le E _ _ (froms_le D E i)
theorem same_le (E : List ByteArray) (x : ByteArray) (f : Nat) : same E x f ≤ E.length - f := by
  unfold same
  have := (List.takeWhile_sublist (p := fun y => decide (y = x)) (l := E.drop f)).length_le
  rw [List.length_drop] at this
  omega
theorem adv_yes {E : List ByteArray} {x : ByteArray} {f : Nat} (h : f < E.length) (hl : ltB E[f] x = true) : adv E x f = adv E x (f + 1) := by
  unfold adv
  rw [List.drop_eq_getElem_cons h, List.takeWhile_cons, if_pos hl, List.length_cons]
  omega
theorem adv_no {E : List ByteArray} {x : ByteArray} {f : Nat} (h : f < E.length) (hl : ltB E[f] x = false) : adv E x f = f := by
  unfold adv
  rw [List.drop_eq_getElem_cons h, List.takeWhile_cons, if_neg (by rw [hl]; decide)]
  rfl
theorem adv_end {E : List ByteArray} {x : ByteArray} {f : Nat} (h : E.length ≤ f) : adv E x f = f := by
  unfold adv
  rw [List.drop_eq_nil_of_le h]
  rfl
theorem same_yes {E : List ByteArray} {x : ByteArray} {f : Nat} (h : f < E.length) (hl : E[f] = x) : same E x f = same E x (f + 1) + 1 := by
  unfold same
  rw [List.drop_eq_getElem_cons h, List.takeWhile_cons, if_pos (decide_eq_true hl), List.length_cons]
theorem same_no {E : List ByteArray} {x : ByteArray} {f : Nat} (h : f < E.length) (hl : ¬ E[f] = x) : same E x f = 0 := by
  unfold same
  rw [List.drop_eq_getElem_cons h, List.takeWhile_cons, if_neg (by rw [decide_eq_false hl]; decide)]
  rfl
theorem same_end {E : List ByteArray} {x : ByteArray} {f : Nat} (h : E.length ≤ f) : same E x f = 0 := by
  unfold same
  rw [List.drop_eq_nil_of_le h]
  rfl
theorem tw_at {α : Type} (p : α → Bool) : ∀ (l : List α) (j : Nat), j < (l.takeWhile p).length → ∃ y, l[j]? = some y ∧ p y = true
  | [], j, h => by simp at h
  | a :: l, j, h => by
    rw [List.takeWhile_cons] at h
    cases hp : p a with
    | false => rw [hp] at h; simp at h
    | true =>
      rw [hp] at h
      cases j with
      | zero => exact ⟨a, rfl, hp⟩
      | succ j => exact tw_at p l j (by simpa using h)
theorem tw_stop {α : Type} (p : α → Bool) : ∀ (l : List α) (y : α), l[(l.takeWhile p).length]? = some y → p y = false
  | [], y, h => by simp at h
  | a :: l, y, h => by
    rw [List.takeWhile_cons] at h
    cases hp : p a with
    | false => rw [hp] at h; simp at h; rw [← h]; exact hp
    | true => rw [hp] at h; exact tw_stop p l y (by simpa using h)
theorem same_at (E : List ByteArray) (x : ByteArray) (f j : Nat) (h : j < same E x f) : E[f + j]? = some x := by
  obtain ⟨y, h1, h2⟩ := tw_at _ _ _ h
  rw [List.getElem?_drop] at h1
  rw [h1, of_decide_eq_true h2]
theorem same_stop (E : List ByteArray) (x : ByteArray) (f : Nat) : ¬ E[f + same E x f]? = some x := by
  intro h
  have := tw_stop (fun y => decide (y = x)) (E.drop f) x (by rw [List.getElem?_drop]; exact h)
  simp at this
theorem rowI_len (D E : List ByteArray) (i : Nat) : (rowI D E i).length ≤ E.length := by
  unfold rowI
  rw [List.length_map, List.length_range]
  have := same_le E (D.getD i ⟨#[]⟩) (froms D E (i + 1))
  omega
theorem pairsI_len (D E : List ByteArray) : ∀ i, (pairsI D E i).length ≤ i * E.length
  | 0 => Nat.zero_le _
  | i + 1 => by
    have h1 := pairsI_len D E i
    have h2 := rowI_len D E i
    simp only [pairsI, List.length_append, Nat.add_mul, Nat.one_mul]
    omega
theorem pairsI_prefix (D E : List ByteArray) {i m : Nat} (h : i + 1 ≤ m) : pairsI D E (i + 1) <+: pairsI D E m := by
  obtain ⟨d, rfl⟩ : ∃ d, m = i + 1 + d := ⟨m - (i + 1), by omega⟩
  clear h
  induction d with
  | zero => exact List.prefix_refl _
  | succ d ih => exact ih.trans (List.prefix_append _ _)
theorem map_range_prefix {α : Type} (f : Nat → α) {a b : Nat} (h : a ≤ b) : (List.range a).map f <+: (List.range b).map f := by
  obtain ⟨d, rfl⟩ : ∃ d, b = a + d := ⟨b - a, by omega⟩
  rw [List.range_add, List.map_append]
  exact List.prefix_append _ _
/-- What the body of the loop must let be: rows and boxes of fields. -/
structure KpT (A B : World) : Prop where
  size : A.heap.size ≤ B.heap.size
  row : ∀ (k : Nat) (cs : Array Value) (fz : Nat × Nat), A.heap[k]? = some (.cells cs 82 fz) → B.heap[k]? = some (.cells cs 82 fz)
  box : ∀ (k : Nat) (cs : Array Value) (fz : Nat × Nat), A.heap[k]? = some (.cells cs 79 fz) → B.heap[k]? = some (.cells cs 79 fz)
theorem KpT.trans {A B C : World} (h : KpT A B) (k : KpT B C) : KpT A C := ⟨Nat.le_trans h.size k.size, fun i cs fz hi => k.row i cs fz (h.row i cs fz hi), fun i cs fz hi => k.box i cs fz (h.box i cs fz hi)⟩
theorem KpT.below {A B : World} (h : Below A.heap.size A B) : KpT A B := ⟨h.size, fun i cs fz hi => (h.block i (Array.getElem?_eq_some_iff.1 hi).1).trans hi, fun i cs fz hi => (h.block i (Array.getElem?_eq_some_iff.1 hi).1).trans hi⟩
theorem KpT.put (W : World) (l : Nat) (o o' : Obj) (h : W.heap[l]? = some o) (hc : o.isCells = false) : KpT W (W.putObj l o') :=
  ⟨by simp, fun i cs fz hi => (World.putObj_heap_other (fun e => by subst e; rw [h] at hi; cases hi; cases hc)).trans hi, fun i cs fz hi => (World.putObj_heap_other (fun e => by subst e; rw [h] at hi; cases hi; cases hc)).trans hi⟩
set_option maxHeartbeats 1000000 in
theorem pairs_in (F : Fence) (n : Nat) (h : F.fn 81) (hro : F.round = none) (A1 A2 : Option Addr) (m1 c1 m2 c2 : Nat) (w : World) :
    CallsIn F n Tryz.prog 81 #[.slice A1 m1 c1, .slice A2 m2 c2] w fun e w' => e = .returned (.func (.func 127) #[] #[.pointer (some ⟨w.heap.size, 0, none⟩), .pointer (some ⟨w.heap.size + 1, 0, none⟩)]) ∧
      w' = (w.alloc (.cells #[.slice A1 m1 c1] 79)).alloc (.cells #[.slice A2 m2 c2] 79) := by
  refine callsIn_of_wp Tryz.func81 rfl h ?_ hro
  simp only [Tryz.ntmps81, List.size_toArray, List.length_cons, List.length_nil, Nat.reduceAdd, Nat.reduceSub, Array.replicate_succ, Array.replicate_zero, List.push_toArray, List.append_toArray, List.nil_append, List.cons_append]
  gi_wp2
  go_ret
  exact ⟨rfl, rfl⟩
/-- A row of fields as the iterator reads it. -/
structure FRow (W : World) (A : Option Addr) (c : Nat) (X : List (FR × Value)) : Prop where
  cap : X.length ≤ c
  len : X.length ≤ 1000000
  max : c ≤ 9223372036854775807
  shape : ∀ x ∈ X, ∃ A n c, x.2 = .slice A n c
  form : (A = none ∧ c = 0 ∧ X.length = 0) ∨ ∃ g, A = some ⟨g, 0, none⟩
  at_ : 0 < X.length → ∃ g cs fz, A = some ⟨g, 0, none⟩ ∧ W.heap[g]? = some (.cells cs 82 fz) ∧ ∀ i (hi : i < X.length), W.cell? ⟨g, i * 2, none⟩ = some (.string X[i].1.1) ∧ W.cell? ⟨g, i * 2 + 1, none⟩ = some X[i].2
theorem FRow.kp {W W' : World} {A : Option Addr} {c : Nat} {X : List (FR × Value)} (h : FRow W A c X) (k : KpT W W') : FRow W' A c X :=
  ⟨h.cap, h.len, h.max, h.shape, h.form, fun h0 => by
    obtain ⟨g, cs, fz, e1, e2, e3⟩ := h.at_ h0
    have e4 := k.row _ _ _ e2
    refine ⟨g, cs, fz, e1, e4, fun i hi => ?_⟩
    have : ∀ o, W'.cell? ⟨g, o, none⟩ = W.cell? ⟨g, o, none⟩ := fun o => cell_same (e4.trans e2.symm) o
    rw [this, this]
    exact e3 i hi⟩
abbrev PP (a b : Nat) := {p : Nat × Nat // p.1 < a ∧ p.2 < b}
def aggF (x : FR × Value) : Value := .agg #[.string x.1.1, x.2]
def encP (X Y : List (FR × Value)) (p : PP X.length Y.length) : Array Value := #[aggF (X[p.1.1]'p.2.1), aggF (Y[p.1.2]'p.2.2)]
set_option maxHeartbeats 4000000 in
set_option maxRecDepth 100000 in
theorem pairs_seq (F : Fence) (k : Nat) (h1 : F.fn 127) (hro : F.round = none) (hk : 1 ≤ k) (Bx By : Nat) (A1 A2 : Option Addr) (c1 c2 : Nat) (X Y : List (FR × Value)) (w : World)
    (hbx : Boxed w Bx 79 (.slice A1 X.length c1)) (hby : Boxed w By 79 (.slice A2 Y.length c2)) (hx : FRow w A1 c1 X) (hy : FRow w A2 c2 Y) :
    SeqStopsK F k Tryz.prog 127 #[.pointer (some ⟨Bx, 0, none⟩), .pointer (some ⟨By, 0, none⟩)] (encP X Y) KpT (fun xs => xs.map (·.1) = pairsI (X.map (·.1.1)) (Y.map (·.1.1)) X.length) (fun pre => pre.map (·.1) <+: pairsI (X.map (·.1.1)) (Y.map (·.1.1)) X.length) (X.length * Y.length) w := by
  intro l J Jx W hW hJ hJx hY h0
  have HW := Lib.hid (KpT.below hW)
  have HBX := Lib.hid (show Boxed W Bx 79 (.slice A1 X.length c1) from HW.out.box _ _ _ hbx)
  have HBY := Lib.hid (show Boxed W By 79 (.slice A2 Y.length c2) from HW.out.box _ _ _ hby)
  have HX := Lib.hid (hx.kp HW.out)
  have HYR := Lib.hid (hy.kp HW.out)
  have HY := Lib.hid hY
  have HJ := Lib.hid (show ∀ pre A B, J pre A → Below A.heap.size A B → J pre B from fun pre A B h hb => hJ pre A B none h (grown_of_below hb) (fun r e => by cases e))
  have H0 := Lib.hid h0
  obtain ⟨N, hN⟩ : ∃ N, X.length = N := ⟨_, rfl⟩
  obtain ⟨M, hM⟩ : ∃ M, Y.length = M := ⟨_, rfl⟩
  have hNl : N ≤ 1000000 := by have := hx.len; omega
  have hMl : M ≤ 1000000 := by have := hy.len; omega
  have hN1 : N ≤ c1 := by have := hx.cap; omega
  have hM1 : M ≤ c2 := by have := hy.cap; omega
  have hc1 := hx.max
  have hc2 := hy.max
  rw [hN] at HBX
  rw [hM] at HBY
  have HN := Lib.hid (And.intro hN hM)
  clear hbx hby hx hy hY hJ hJx h0 hW hN hM
  refine callsIn_of_wp Tryz.func127 rfl h1 ?_ hro
  simp only [Tryz.ntmps127, List.size_toArray, List.length_cons, List.length_nil, Nat.reduceAdd, Nat.reduceSub, Array.replicate_succ, Array.replicate_zero, List.push_toArray, List.append_toArray, List.nil_append, List.cons_append]
  have hmx : Tryz.prog.follows .mixedOrders = true := by kernel_rfl
  have cx := HBX.out.cell
  gi_wp2
  clear cx
  gi_loopw [4, 11] (fun f i wr => ∃ (q : Nat) (pre : List (PP X.length Y.length)), q ≤ N ∧ i = .int .i64 (q : Int) ∧ f = .int .i64 (froms (X.map (·.1.1)) (Y.map (·.1.1)) q : Int) ∧ Hid (J pre wr ∧ KpT W wr ∧ pre.map (·.1) = pairsI (X.map (·.1.1)) (Y.map (·.1.1)) q)) (fun _ i _ => N - (intOf i).toNat)
  case atStart => exact ⟨0, [], Nat.zero_le _, rfl, rfl, Lib.hid ⟨H0.out, ⟨Nat.le_refl _, fun _ _ _ h => h, fun _ _ _ h => h⟩, rfl⟩⟩
  case round =>
    obtain ⟨q, pre, hq, rfl, rfl, hst⟩ := hrel
    by_cases hlt : q < N
    · have hqX : q < X.length := by rw [HN.out.1]; exact hlt
      have hfx := HX.out.kp hst.out.2.1
      obtain ⟨g1, cs1, fz1, rfl, hg1, hcl1⟩ := hfx.at_ (by omega)
      obtain ⟨x, hxe⟩ : ∃ x, X[q] = x := ⟨_, rfl⟩
      obtain ⟨B1, n1, d1, e1⟩ := hfx.shape x (hxe ▸ List.getElem_mem hqX)
      have l1 := hcl1 q hqX
      rw [hxe, e1] at l1
      have l11 := l1.1
      have l12 := l1.2
      have b1 : (0 : Int) ≤ (q : Int) := Int.natCast_nonneg _
      have HXE := Lib.hid (And.intro hxe e1)
      clear hfx hcl1 l1 hxe e1
      gi_wp2
      clear l11 l12
      obtain ⟨W3, hW3⟩ : ∃ W3, wr.alloc (.cells #[.string x.1.1, .slice B1 n1 d1] 82) = W3 := ⟨_, rfl⟩
      have b3 : Below wr.heap.size wr W3 := by rw [← hW3]; exact bal (Below.refl _ _) _
      have x3 : W3.heap[wr.heap.size]? = some (.cells #[.string x.1.1, .slice B1 n1 d1] 82 (0, 0)) := by rw [← hW3]; exact heap_alloc_new _ _
      obtain ⟨XB, hXB⟩ : ∃ XB, wr.heap.size = XB := ⟨_, rfl⟩
      rw [hXB] at x3
      rw [hW3, hXB]
      have HX3 := Lib.hid (And.intro x3 (And.intro (hst.out.2.1.trans (KpT.below b3)) (HJ.out _ _ _ hst.out.1 b3)))
      obtain ⟨f0, hf0⟩ : ∃ f0, froms (X.map (·.1.1)) (Y.map (·.1.1)) q = f0 := ⟨_, rfl⟩
      have hf0l : f0 ≤ M := by have := froms_le (X.map (·.1.1)) (Y.map (·.1.1)) q; rw [List.length_map, HN.out.2] at this; omega
      rw [hf0]
      have HF0 := Lib.hid hf0
      clear hW3 b3 x3 hf0 hXB
      gi_loopw [4] (fun f V => ∃ f1 nq : Nat, f = .int .i64 (f1 : Int) ∧ f0 ≤ f1 ∧ f1 ≤ M ∧ Hid (adv (Y.map (·.1.1)) x.1.1 f0 = adv (Y.map (·.1.1)) x.1.1 f1 ∧ V = W3.drewN nq)) (fun f _ => M - (intOf f).toNat)
      case atStart => exact ⟨f0, 0, rfl, Nat.le_refl _, hf0l, Lib.hid ⟨rfl, rfl⟩⟩
      case round =>
        obtain ⟨f1, nq, rfl, hf1, hf2, hin⟩ := hrel
        obtain ⟨hadv, rfl⟩ := hin.out
        have hy3 := HYR.out.kp HX3.out.2.1
        have cby : W3.cell? ⟨By, 0, none⟩ = some (.slice A2 M c2) := Boxed.cell (HX3.out.2.1.box _ _ _ HBY.out)
        have cbx : W3.cell? ⟨XB, 0, none⟩ = some (.string x.1.1) := by
          rw [Lib.cell_of_heap HX3.out.1]; rfl
        have hcases : (f1 < M ∧ ∃ (g2 : Nat) (y : ByteArray), A2 = some ⟨g2, 0, none⟩ ∧ W3.cell? ⟨g2, f1 * 2, none⟩ = some (.string y) ∧ Op.bytesLess y.toList x.1.1.toList = true ∧ Hid (adv (Y.map (·.1.1)) x.1.1 f1 = adv (Y.map (·.1.1)) x.1.1 (f1 + 1))) ∨
            (f1 < M ∧ ∃ (g2 : Nat) (y : ByteArray), A2 = some ⟨g2, 0, none⟩ ∧ W3.cell? ⟨g2, f1 * 2, none⟩ = some (.string y) ∧ Op.bytesLess y.toList x.1.1.toList = false ∧ Hid (froms (X.map (·.1.1)) (Y.map (·.1.1)) (q + 1) = f1)) ∨
            (¬ f1 < M ∧ f1 = c2 ∧ ∃ g2 : Nat, A2 = some ⟨g2, 0, none⟩ ∧ Hid (froms (X.map (·.1.1)) (Y.map (·.1.1)) (q + 1) = f1)) ∨
            (¬ f1 < M ∧ ¬ (f1 = c2) ∧ ∃ g2 : Nat, A2 = some ⟨g2, 0, none⟩ ∧ Hid (froms (X.map (·.1.1)) (Y.map (·.1.1)) (q + 1) = f1)) ∨
            (f1 = 0 ∧ A2 = none ∧ c2 = 0 ∧ M = 0 ∧ Hid (froms (X.map (·.1.1)) (Y.map (·.1.1)) (q + 1) = f1)) := by
          have hDq : (X.map (·.1.1)).getD q ⟨#[]⟩ = x.1.1 := by rw [List.getD_eq_getElem?_getD, List.getElem?_map, List.getElem?_eq_getElem hqX, HXE.out.1]; rfl
          have hfr : froms (X.map (·.1.1)) (Y.map (·.1.1)) (q + 1) = adv (Y.map (·.1.1)) x.1.1 f1 := by
            show adv _ ((X.map (·.1.1)).getD q ⟨#[]⟩) _ = _
            rw [hDq, HF0.out, hadv]
          by_cases hm : f1 < M
          · have hmY : f1 < Y.length := by rw [HN.out.2]; exact hm
            obtain ⟨g2, cs2, fz2, e2, hg2, hcl2⟩ := hy3.at_ (by omega)
            have hmE : f1 < (Y.map (·.1.1)).length := by rw [List.length_map]; exact hmY
            have hge : (Y.map (·.1.1))[f1] = Y[f1].1.1 := List.getElem_map ..
            cases hlt2 : ltB Y[f1].1.1 x.1.1 with
            | true => exact .inl ⟨hm, g2, Y[f1].1.1, e2, (hcl2 f1 hmY).1, hlt2, Lib.hid (adv_yes hmE (by rw [hge]; exact hlt2))⟩
            | false => exact .inr (.inl ⟨hm, g2, Y[f1].1.1, e2, (hcl2 f1 hmY).1, hlt2, Lib.hid (by rw [hfr]; exact adv_no hmE (by rw [hge]; exact hlt2))⟩)
          · have hfe : froms (X.map (·.1.1)) (Y.map (·.1.1)) (q + 1) = f1 := by rw [hfr]; exact adv_end (by rw [List.length_map, HN.out.2]; omega)
            rcases hy3.form with ⟨e1, e2, e3⟩ | ⟨g2, e1⟩
            · have hM0 : M = 0 := by rw [← HN.out.2]; exact e3
              exact .inr (.inr (.inr (.inr ⟨by omega, e1, e2, hM0, Lib.hid hfe⟩)))
            · by_cases hc : f1 = c2
              · exact .inr (.inr (.inl ⟨hm, hc, g2, e1, Lib.hid hfe⟩))
              · exact .inr (.inr (.inr (.inl ⟨hm, hc, g2, e1, Lib.hid hfe⟩)))
        have b2 : (0 : Int) ≤ (f1 : Int) := Int.natCast_nonneg _
        have b5 : (f1 : Int) ≤ (M : Int) := by omega
        have HLE := Lib.hid (And.intro hf1 hadv)
        clear hy3 hin hadv hf1
        rcases hcases with ⟨hm, g2, y, rfl, l21, hbl, HNO⟩ | ⟨hm, g2, y, rfl, l21, hbl, HNO⟩ | ⟨hm, rfl, g2, rfl, HNO⟩ | ⟨hm, hcc, g2, rfl, HNO⟩ | ⟨rfl, rfl, rfl, rfl, HNO⟩
        · gi_wp2
          refine wpIn_region_quiet_lit hro (by kernel_rfl) (by kernel_rfl) ?_
          repeat (gi_big_quiet_step (fail))
          refine wpQuietIn_nil ?_
          intro _ hw'
          obtain ⟨n2, hw''⟩ := hw'
          subst hw''
          clear cby cbx l21
          gi_wp2
          go_roundw
          case rel => exact ⟨f1 + 1, nq + n2, by go_num, by have := HLE.out.1; omega, by omega, Lib.hid ⟨by rw [HLE.out.2, HNO.out], rfl⟩⟩
          case measure => simp [intOf]; omega
        · have hcl : same (Y.map (·.1.1)) x.1.1 f1 ≤ M - f1 := by have := same_le (Y.map (·.1.1)) x.1.1 f1; rw [List.length_map, HN.out.2] at this; exact this
          have hDq : Hid ((X.map (·.1.1)).getD q ⟨#[]⟩ = x.1.1) := Lib.hid (by rw [List.getD_eq_getElem?_getD, List.getElem?_map, List.getElem?_eq_getElem hqX, HXE.out.1]; rfl)
          have HCL := Lib.hid hcl
          clear hcl
          gi_wp2
          refine wpIn_region_quiet_lit hro (by kernel_rfl) (by kernel_rfl) ?_
          repeat (gi_big_quiet_step (fail))
          refine wpQuietIn_nil ?_
          intro _ hw'
          obtain ⟨n2, hw''⟩ := hw'
          subst hw''
          gi_wp2
          clear cby cbx l21
          gi_loopw [35] (fun i V => ∃ (j : Nat) (p2 : List (PP X.length Y.length)), i = .int .i64 (j : Int) ∧ j ≤ M ∧ Hid (j ≤ same (Y.map (·.1.1)) x.1.1 f1 ∧ J p2 V ∧ KpT W3 V ∧ p2.map (·.1) = pairsI (X.map (·.1.1)) (Y.map (·.1.1)) q ++ (List.range j).map fun t => (q, f1 + t))) (fun i _ => M - (intOf i).toNat)
          case atStart => exact ⟨0, pre, rfl, Nat.zero_le _, Lib.hid ⟨Nat.zero_le _, HJ.out _ _ _ HX3.out.2.2 (bdrN (Below.refl _ _) _), KpT.below (bdrN (Below.refl _ _) _), by simpa using hst.out.2.2⟩⟩
          case round =>
            obtain ⟨j, p2, rfl, hjM, hin⟩ := hrel
            by_cases hj : j < M - f1
            · have hfj : f1 + j < Y.length := by rw [HN.out.2]; omega
              have hge : (Y.map (·.1.1))[f1 + j]? = some Y[f1 + j].1.1 := by rw [List.getElem?_map, List.getElem?_eq_getElem hfj]; rfl
              have hyv := HYR.out.kp (HX3.out.2.1.trans hin.out.2.2.1)
              obtain ⟨g3, cs3, fz3, eg3, hg3, hcl3⟩ := hyv.at_ (by omega)
              obtain rfl : g2 = g3 := by injection eg3 with e; injection e
              obtain ⟨z, hz⟩ : ∃ z, Y[f1 + j] = z := ⟨_, rfl⟩
              obtain ⟨B2, n3, d2, e2⟩ := hyv.shape z (hz ▸ List.getElem_mem hfj)
              have l3 := hcl3 (f1 + j) hfj
              rw [hz, e2, Nat.add_mul] at l3
              have l31 := l3.1
              have l32 := l3.2
              have x5 := hin.out.2.2.1.row _ _ _ HX3.out.1
              have l41 : wr.cell? ⟨XB, 0, none⟩ = some (.string x.1.1) := by rw [Lib.cell_of_heap x5]; rfl
              have l42 : wr.cell? ⟨XB, 1, none⟩ = some (.slice B1 n1 d1) := by rw [Lib.cell_of_heap x5]; rfl
              have hXlt : XB < wr.heap.size := (Array.getElem?_eq_some_iff.1 x5).1
              have hjb : (0 : Int) ≤ (j : Int) := Int.natCast_nonneg _
              have hjb2 : (j : Int) < ((M - f1 : Nat) : Int) := by omega
              rw [hz] at hge
              have HZ := Lib.hid (And.intro hz (And.intro e2 hge))
              have hp2l : p2.length < X.length * Y.length := by
                have h1 := congrArg List.length hin.out.2.2.2
                rw [List.length_map, List.length_append, List.length_map, List.length_range] at h1
                have h2 := pairsI_len (X.map (·.1.1)) (Y.map (·.1.1)) q
                rw [List.length_map] at h2
                have h3 : (q + 1) * Y.length ≤ X.length * Y.length := Nat.mul_le_mul_right _ hqX
                rw [Nat.add_mul, Nat.one_mul] at h3
                omega
              have b4 : Below wr.heap.size wr (wr.alloc (.cells #[.string z.1.1, .slice B2 n3 d2] 82)) := bal (Below.refl _ _) _
              have HJ4 := Lib.hid (HJ.out _ _ _ hin.out.2.1 b4)
              have HK4 := Lib.hid (hin.out.2.2.1.trans (KpT.below b4))
              have HP2 := Lib.hid (And.intro hp2l (And.intro hfj hqX))
              clear hyv hcl3 l3 hz e2 hge x5 eg3 hg3 hp2l b4
              by_cases hxy : z.1.1 = x.1.1
              · obtain ⟨fn, tmps, assign, body, hyy, hR⟩ := HY.out p2 ⟨(q, f1 + j), HP2.out.2.2, HP2.out.2.1⟩ _ HJ4.out HP2.out.1
                have hp0 : encP X Y ⟨(q, f1 + j), HP2.out.2.2, HP2.out.2.1⟩ = #[.agg #[.string x.1.1, .slice B1 n1 d1], .agg #[.string z.1.1, .slice B2 n3 d2]] := by
                  unfold encP aggF
                  simp only [HXE.out.1, HXE.out.2, HZ.out.1, HZ.out.2.1]
                rw [hp0] at hyy
                have hne : (z.1.1.toList == x.1.1.toList) = true := by rw [hxy]; simp
                have HXY := Lib.hid hxy
                clear hp0 hxy
                have hjs : j < same (Y.map (·.1.1)) x.1.1 f1 := by
                  rcases Nat.lt_or_ge j (same (Y.map (·.1.1)) x.1.1 f1) with h | h
                  · exact h
                  · have e := Nat.le_antisymm hin.out.1 h
                    have h1 := HZ.out.2.2
                    rw [e, HXY.out] at h1
                    exact absurd h1 (same_stop _ _ _)
                have hm5 : (p2 ++ [(⟨(q, f1 + j), HP2.out.2.2, HP2.out.2.1⟩ : PP X.length Y.length)]).map (·.1) = pairsI (X.map (·.1.1)) (Y.map (·.1.1)) q ++ (List.range (j + 1)).map fun t => (q, f1 + t) := by
                  rw [List.map_append, hin.out.2.2.2, List.range_succ, List.map_append, List.append_assoc]; rfl
                have HJS := Lib.hid (And.intro hjs hm5)
                clear hjs hm5
                gi_wp2
                refine hR.mono ?_
                rintro e V5 (⟨rfl, hJ5, hk5⟩ | ⟨rfl, hJx5⟩)
                · have H5 := Lib.hid (And.intro HJS.out.1 (And.intro hJ5 (And.intro (HK4.out.trans hk5) HJS.out.2)))
                  clear hJ5 hk5 hR hyy l31 l32 l41 l42 hne
                  gi_wp2
                  go_roundw
                  case rel => exact ⟨j + 1, _, by go_num, by omega, H5⟩
                  case measure => simp [intOf]; omega
                · have HJ5 := Lib.hid hJx5
                  clear hJx5 hR hyy l31 l32 l41 l42 hne
                  gi_wp2
                  refine bodyPost_ret (results_none rfl _ _ _) rfl ?_
                  refine ⟨⟨_, rfl⟩, .inr ⟨_, ?_, HJ5.out⟩⟩
                  rw [HJS.out.2]
                  refine List.IsPrefix.trans ?_ (pairsI_prefix (X.map (·.1.1)) (Y.map (·.1.1)) hqX)
                  show _ <+: pairsI _ _ q ++ rowI _ _ q
                  unfold rowI
                  rw [HNO.out, hDq.out]
                  exact (List.prefix_append_right_inj _).2 (map_range_prefix _ (by have := HJS.out.1; omega))
              · have hne : (z.1.1.toList == x.1.1.toList) = false := by
                  rw [beq_eq_false_iff_ne]
                  intro e
                  rw [Lib.toList_data, Lib.toList_data] at e
                  apply hxy
                  exact ByteArray.ext (Array.ext' e)
                have hje : j = same (Y.map (·.1.1)) x.1.1 f1 := by
                  rcases Nat.lt_or_ge j (same (Y.map (·.1.1)) x.1.1 f1) with h | h
                  · have h1 := same_at _ _ _ _ h
                    rw [HZ.out.2.2] at h1
                    exact absurd (Option.some.inj h1) hxy
                  · exact Nat.le_antisymm hin.out.1 h
                have hrow : p2.map (·.1) = pairsI (X.map (·.1.1)) (Y.map (·.1.1)) (q + 1) := by
                  rw [hin.out.2.2.2]
                  show _ = pairsI _ _ q ++ rowI _ _ q
                  unfold rowI
                  rw [HNO.out, hDq.out, ← hje]
                have HEND := Lib.hid (And.intro HJ4.out (And.intro (HX3.out.2.1.trans HK4.out) hrow))
                clear hrow hje hxy
                gi_wp2
                go_roundw
                case rel => exact ⟨q + 1, p2, by omega, by go_num, by rw [HNO.out] <;> rfl, HEND⟩
                case measure => simp [intOf]; omega
            · have hje : j = same (Y.map (·.1.1)) x.1.1 f1 := by have := hin.out.1; have := HCL.out; omega
              have hrow : p2.map (·.1) = pairsI (X.map (·.1.1)) (Y.map (·.1.1)) (q + 1) := by
                rw [hin.out.2.2.2]
                show _ = pairsI _ _ q ++ rowI _ _ q
                unfold rowI
                rw [HNO.out, hDq.out, ← hje]
              have HEND := Lib.hid (And.intro hin.out.2.1 (And.intro (HX3.out.2.1.trans hin.out.2.2.1) hrow))
              clear hrow hje
              gi_wp2
              go_roundw
              case rel => exact ⟨q + 1, p2, by omega, by go_num, by rw [HNO.out] <;> rfl, HEND⟩
              case measure => simp [intOf]; omega
        all_goals
          gi_wp2
          refine wpIn_region_quiet_lit hro (by kernel_rfl) (by kernel_rfl) ?_
          repeat (gi_big_quiet_step (fail))
          refine wpQuietIn_nil ?_
          intro _ hw'
          obtain ⟨n2, hw''⟩ := hw'
          subst hw''
          gi_wp2
          gi_loopw [35] (fun i V => i = .int .i64 0 ∧ V = W3.drewN (nq + n2)) (fun i _ => 0)
          case atStart => exact ⟨rfl, rfl⟩
          case round =>
            obtain ⟨rfl, rfl⟩ := hrel
            have hj1 : J pre (W3.drewN (nq + n2)) := HJ.out _ _ _ HX3.out.2.2 (bdrN (Below.refl _ _) _)
            have hrow : pre.map (·.1) = pairsI (X.map (·.1.1)) (Y.map (·.1.1)) (q + 1) := by
              rw [hst.out.2.2]
              show _ = pairsI _ _ q ++ rowI _ _ q
              unfold rowI
              rw [HNO.out, same_end (by rw [List.length_map, HN.out.2]; omega)]
              simp
            have HEND := Lib.hid (And.intro hj1 (And.intro (HX3.out.2.1.trans (KpT.below (bdrN (Below.refl _ _) (nq + n2)))) hrow))
            clear hj1 hrow
            gi_wp2
            go_roundw
            case rel => exact ⟨q + 1, pre, by omega, by go_num, by rw [HNO.out] <;> rfl, HEND⟩
            case measure => simp [intOf]; omega
    · gi_wp2
      go_end0
      have e : q = X.length := by have := HN.out.1; omega
      exact ⟨⟨_, rfl⟩, .inl ⟨pre, by rw [hst.out.2.2, e], hst.out.1⟩⟩
end Go.Proofs.YtlicjpbmlmongaaGreatDoor.C

end
section
/- A region that draws its order, inside a round of a range over a function: an invariant that each operation keeps serves for all orders. -/
set_option linter.unusedVariables false
set_option linter.unusedSimpArgs false
namespace Go.Proofs.YtlicjpbmlmongaaGreatDoor.Reg
open Go
variable {F : Fence} {n : Nat} {P : Program} {ops : Array Oper} {Q : Exit → Act → World → Prop}

/-- All that operation i waits for has been done. -/
def deps (ops : Array Oper) (i : Nat) (L : Nat → Bool) : Prop := ∀ e ∈ ((ops[i]?).map fun o => o.after.toList).getD [], Region.binds .any e = true → L e.on = true
/-- Each operation waits for earlier ones alone. -/
def early (ops : Array Oper) : Bool := (List.range ops.size).all fun i => (((ops[i]?).map fun o => o.after.toList).getD []).all fun e => !Region.binds .any e || decide (e.on < i)
theorem wpAnyIn_inv (J : (Nat → Bool) → Act → World → Prop) (he : early ops = true)
    (hstep : ∀ (L : Nat → Bool) (a : Act) (w : World) (i : Nat), J L a w → i < ops.size → L i = false → deps ops i L → wpOpIn F n P ops Q i (J (fun j => if j = i then true else L j)) a w)
    (hdone : ∀ (L : Nat → Bool) (a : Act) (w : World), J L a w → (∀ i, i < ops.size → L i = true) → Q .normal a w) :
    ∀ (fuel : Nat) (listed : Array Bool) (a : Act) (w : World), listed.size = ops.size → ((List.range ops.size).filter fun i => !listed.getD i true).length ≤ fuel → J (fun j => listed.getD j false) a w → wpAnyIn F n P .any ops Q fuel listed a w := by
  have hnil : ∀ (listed : Array Bool), listed.size = ops.size → Region.ready .any ops listed = [] → ∀ i, i < ops.size → listed.getD i false = true := by
    intro listed hs hr i
    induction i using Nat.strongRecOn with
    | ind i ih =>
      intro hi
      cases hl : listed.getD i false with
      | true => rfl
      | false =>
        exfalso
        have hmem : i ∈ Region.ready .any ops listed := by
          unfold Region.ready
          rw [List.mem_filter]
          refine ⟨List.mem_range.2 hi, ?_⟩
          have h1 : listed.getD i true = false := by
            rw [Array.getD_eq_getD_getElem?, Array.getElem?_eq_getElem (by omega)] at hl ⊢
            exact hl
          rw [h1, Array.getElem?_eq_getElem hi]
          simp only [Bool.not_false, Bool.true_and, Option.map_some, Option.getD_some]
          rw [Array.all_eq_true]
          intro j hj
          have hea := List.all_eq_true.1 he i (List.mem_range.2 hi)
          rw [Array.getElem?_eq_getElem hi] at hea
          simp only [Option.map_some, Option.getD_some] at hea
          have hee := List.all_eq_true.1 hea ops[i].after[j] (by simp)
          cases hb : Region.binds .any ops[i].after[j] with
          | false => rfl
          | true =>
            rw [hb] at hee
            simp only [Bool.not_true, Bool.false_or, decide_eq_true_eq] at hee ⊢
            exact ih _ hee (by omega)
        rw [hr] at hmem
        cases hmem
  intro fuel
  induction fuel with
  | zero =>
    intro listed a w hs hc hj
    have hr : Region.ready .any ops listed = [] := by
      have h0 : (List.range ops.size).filter (fun i => !listed.getD i true) = [] := List.eq_nil_of_length_eq_zero (by omega)
      rw [List.filter_eq_nil_iff] at h0
      unfold Region.ready
      rw [List.filter_eq_nil_iff]
      intro i hi h1
      rw [Bool.and_eq_true] at h1
      exact h0 i hi h1.1
    exact ⟨hr, hdone _ _ _ hj (hnil listed hs hr)⟩
  | succ fuel ih =>
    intro listed a w hs hc hj
    refine ⟨fun hr => hdone _ _ _ hj (hnil listed hs hr), fun i hi => ?_⟩
    unfold Region.ready at hi
    rw [List.mem_filter] at hi
    obtain ⟨hi1, hi2⟩ := hi
    rw [List.mem_range] at hi1
    rw [Bool.and_eq_true] at hi2
    obtain ⟨hi2, hi3⟩ := hi2
    have hl : listed.getD i false = false := by
      have : listed.getD i true = false := by simpa using hi2
      rw [Array.getD_eq_getD_getElem?, Array.getElem?_eq_getElem (by omega)] at this ⊢
      exact this
    have hd : deps ops i (fun j => listed.getD j false) := by
      intro e hm hb
      rw [Array.getElem?_eq_getElem hi1] at hm hi3
      simp only [Option.map_some, Option.getD_some] at hm hi3
      obtain ⟨j, hj1, hj2⟩ := List.getElem_of_mem hm
      have := (Array.all_eq_true.1 hi3) j (by simpa using hj1)
      rw [show ops[i].after[j]'(by simpa using hj1) = e by rw [← hj2]; simp] at this
      rw [hb] at this
      simpa using this
    refine wpOpIn_mono (fun a' w' hj' => ih _ a' w' (by simpa using hs) ?_ ?_) (hstep _ a w i hj hi1 hl hd)
    · have hlt : ((List.range ops.size).filter fun j => !(listed.setIfInBounds i true).getD j true).length < ((List.range ops.size).filter fun j => !listed.getD j true).length := by
        have hsub : (List.range ops.size).filter (fun j => !(listed.setIfInBounds i true).getD j true) = ((List.range ops.size).filter fun j => !listed.getD j true).filter (fun j => decide (j ≠ i)) := by
          rw [List.filter_filter]
          apply List.filter_congr
          intro j hj
          rw [List.mem_range] at hj
          by_cases e : i = j
          · subst e
            rw [Array.getD_eq_getD_getElem?, Array.getElem?_setIfInBounds_self_of_lt (by omega)]
            simp
          · rw [Array.getD_eq_getD_getElem?, Array.getElem?_setIfInBounds_ne e, ← Array.getD_eq_getD_getElem?]
            simp [Ne.symm e]
        rw [hsub]
        refine List.length_filter_lt_length_iff_exists.2 ⟨i, ?_, by simp⟩
        rw [List.mem_filter]
        exact ⟨List.mem_range.2 hi1, hi2⟩
      omega
    · have e : (fun j => (listed.setIfInBounds i true).getD j false) = (fun j => if j = i then true else listed.getD j false) := by
        funext j
        by_cases e : i = j
        · subst e
          rw [if_pos rfl, Array.getD_eq_getD_getElem?, Array.getElem?_setIfInBounds_self_of_lt (by omega)]
          rfl
        · rw [if_neg (Ne.symm e), Array.getD_eq_getD_getElem?, Array.getElem?_setIfInBounds_ne e, ← Array.getD_eq_getD_getElem?]
      rw [e]
      exact hj'
/-- The rule. -/
theorem wpIn_region_inv {id : Nat} {a : Act} {w : World} (hm : P.follows .mixedOrders = true) (J : (Nat → Bool) → Act → World → Prop) (he : early ops = true) (h0 : J (fun _ => false) a w.drew)
    (hstep : ∀ (L : Nat → Bool) (a : Act) (w : World) (i : Nat), J L a w → i < ops.size → L i = false → deps ops i L → wpOpIn F n P ops Q i (J (fun j => if j = i then true else L j)) a w)
    (hdone : ∀ (L : Nat → Bool) (a : Act) (w : World), J L a w → (∀ i, i < ops.size → L i = true) → Q .normal a w) : (Code.region id ops true).wpIn F n P Q a w := by
  refine wpIn_region_any hm (wpAnyIn_inv J he hstep hdone ops.size _ a _ (by simp) ?_ ?_)
  · exact Nat.le_trans (List.length_filter_le _ _) (by simp)
  · have e : (fun j => (Array.replicate ops.size false).getD j false) = fun _ => false := by
      funext j
      rw [Array.getD_eq_getD_getElem?, Array.getElem?_replicate]
      split <;> rfl
    rw [e]
    exact h0
theorem deps_mono {ops : Array Oper} {i : Nat} {L L' : Nat → Bool} (h : deps ops i L) (hl : ∀ j, L j = true → L' j = true) : deps ops i L' := fun e he hb => hl _ (h e he hb)
/-- The rule, and what has been done had all done that it waits for. -/
theorem wpIn_region_inv2 {id : Nat} {a : Act} {w : World} (hm : P.follows .mixedOrders = true) (J : (Nat → Bool) → Act → World → Prop) (he : early ops = true) (h0 : J (fun _ => false) a w.drew)
    (hstep : ∀ (L : Nat → Bool) (a : Act) (w : World) (i : Nat), J L a w → (∀ j, L j = true → deps ops j L) → i < ops.size → L i = false → deps ops i L → wpOpIn F n P ops Q i (J (fun j => if j = i then true else L j)) a w)
    (hdone : ∀ (L : Nat → Bool) (a : Act) (w : World), J L a w → (∀ i, i < ops.size → L i = true) → Q .normal a w) : (Code.region id ops true).wpIn F n P Q a w := by
  refine wpIn_region_inv hm (fun L a w => J L a w ∧ ∀ j, L j = true → deps ops j L) he ⟨h0, fun j h => by cases h⟩ (fun L a w i hj hi hl hd => ?_) (fun L a w hj hall => hdone L a w hj.1 hall)
  refine wpOpIn_mono (fun a' w' h => ⟨h, fun j hjt => ?_⟩) (hstep L a w i hj.1 hj.2 hi hl hd)
  have hm : ∀ k, L k = true → (if k = i then true else L k) = true := fun k hk => by split <;> first | rfl | exact hk
  by_cases e : j = i
  · subst e
    exact deps_mono hd hm
  · have hjt2 : (if j = i then true else L j) = true := hjt
    rw [if_neg e] at hjt2
    exact deps_mono (hj.2 j hjt2) hm
/-- One operation, as a list of one. -/
theorem wpOpIn_of_list {i : Nat} {o : Oper} {K : Act → World → Prop} {a : Act} {w : World} (hi : ops[i]? = some o) (h : wpListIn F n P ops (Exit.then K Q) [o] a w) : wpOpIn F n P ops Q i K a w := by
  unfold wpOpIn
  rw [hi]
  simp only []
  unfold wpListIn at h
  split
  · rename_i hw
    rw [if_pos hw] at h
    unfold Oper.wpIn at h ⊢
    refine ⟨h.1, ?_⟩
    have h2 := h.2
    generalize (o.semAt F.round a.eval).run P w = r at *
    cases r with
    | ok x w' =>
      cases x <;> simp only [Oper.uponIn] at h2 ⊢ <;>
        first
          | exact h2
          | exact ⟨h2.1, CallsIn.mono h2.2 (fun e w'' he => by cases e <;> exact he)⟩
          | exact ⟨h2.1, RoundIn.mono h2.2 (fun e w'' he => by cases e <;> exact he)⟩
    | halt x w' => cases x <;> simp only [Oper.uponIn] at h2 ⊢ <;> exact h2
  · rename_i hw
    rw [if_neg hw] at h
    exact h
theorem wpOpIn_of_list2 {i : Nat} {o : Oper} {K : Act → World → Prop} {a : Act} {w : World} (hi : ops[i]? = some o) (h : ∀ K' : Act → World → Prop, (∀ a w, K a w → K' a w) → wpListIn F n P ops (Exit.then K' Q) [o] a w) : wpOpIn F n P ops Q i K a w :=
  wpOpIn_of_list hi (h K fun _ _ h => h)
end Go.Proofs.YtlicjpbmlmongaaGreatDoor.Reg

end
section
/- views.Join: the body of its loop. -/
set_option linter.unusedVariables false
set_option linter.unusedSimpArgs false
namespace Go.Proofs.YtlicjpbmlmongaaGreatDoor.C
open Go.RowKit Go.Shelf Go.BigFrame Go.Proofs Go.Proofs.YtlicjpbmlmongaaGreatDoor.H Go.Proofs.YtlicjpbmlmongaaGreatDoor.S Go.Proofs.YtlicjpbmlmongaaGreatDoorW.PrintWords

attribute [local go_sem] Oper.semAt_some
/-- The body of the first range over a function in a text. -/
def bodyOf : Code → Option Code
  | .seq a b => match bodyOf a with
    | some c => some c
    | none => bodyOf b
  | .cond _ a b => match bodyOf a with
    | some c => some c
    | none => bodyOf b
  | .block _ c => bodyOf c
  | .rangeFunc _ _ _ b => some b
  | _ => none
/-- Blocks that the body may turn. -/
def loud : Obj → Bool
  | .cells _ t _ => t == 9 || t == 24 || t == 27
  | _ => false
structure Loud (W W' : World) : Prop where
  size : W.heap.size ≤ W'.heap.size
  same : ∀ (k : Nat) (o : Obj), W.heap[k]? = some o → loud o = false → W'.heap[k]? = some o
theorem Loud.trans {A B C : World} (h : Loud A B) (k : Loud B C) : Loud A C := ⟨Nat.le_trans h.size k.size, fun i o hi ho => k.same i o (h.same i o hi ho) ho⟩
theorem Loud.below {A B : World} (h : Below A.heap.size A B) : Loud A B := ⟨h.size, fun i o hi _ => (h.block i (Array.getElem?_eq_some_iff.1 hi).1).trans hi⟩
theorem Loud.set {A : World} {b : Nat} {cs : Array Value} {t : TypeId} {fz : Nat × Nat} (hb : A.heap[b]? = some (.cells cs t fz)) (ht : (t == 9 || t == 24 || t == 27) = true) (o : Nat) (v : Value) : Loud A (A.setCell ⟨b, o, none⟩ v) :=
  ⟨by simp [World.setCell], fun i ob hi ho => (Below.heap_setCell _ _ _ i (fun e => by
    have e : i = b := e
    subst e
    rw [hb] at hi
    cases hi
    have : loud (.cells cs t fz) = true := ht
    rw [this] at ho
    cases ho)).trans hi⟩
theorem Loud.grown {base : Nat} {A B : World} {v : Value} {n size : Nat} {xs : List Value} (h : A.ownsRow base 9 size v n xs) (hg : A.grownBy B v.ownBlock) : Loud A B :=
  ⟨hg.size, fun i o hi ho => (hg.block i (Array.getElem?_eq_some_iff.1 hi).1 (fun e => by
    rcases h.2 with ⟨rfl, _⟩ | ⟨g, cap, cur, rfl, _, hgb, _⟩
    · simp [Value.ownBlock] at e
    · obtain rfl : i = g := by simpa [Value.ownBlock] using e
      rw [hgb] at hi
      cases hi
      cases ho)).trans hi⟩
/-- Between two rounds. -/
structure IB (w W0 : World) (bO bE : Nat) (L : List ByteArray) (W : World) : Prop where
  low : Below w.heap.size w W
  keep : ∀ k, k < W0.heap.size → k ≠ bO → k ≠ bE → W.heap[k]? = W0.heap[k]?
  size : W0.heap.size ≤ W.heap.size
  err : Boxed W bE 27 (.int .i64 0)
  out : ∃ v, Boxed W bO 24 v ∧ Txs W0.heap.size v L W
/-- A round has left. -/
structure IR (w : World) (bO bE : Nat) (W : World) : Prop where
  low : Below w.heap.size w W
  err : Boxed W bE 27 (.int .i64 3)
  out : Boxed W bO 24 (.slice none 0 0)
/-- What the region's operations speak of. -/
structure JK where
  W : World
  b15 : Nat
  b16 : Nat
  V0 : Value
  p : ByteArray
  q : ByteArray
  Ar : Option Addr
  As : Option Addr
  cr : Nat
  cs : Nat
  rp : List ByteArray
  rq : List ByteArray
  sb : UInt8
def JK.r (k : JK) : ByteArray := ⟨(Lib.join (([k.p] ++ (k.rp ++ k.rq)).map (·.data.toList)) [k.sb]).toArray⟩
def JK.fact (k : JK) : Nat → Value → World → Prop
  | 0, v, _ => v = k.V0
  | 1, v, _ => v = .pointer (some ⟨k.b15, 0, none⟩)
  | 2, v, _ => v = .string k.p
  | 3, v, V => ∃ G, v = .slice (some ⟨G, 0, none⟩) 1 1 ∧ Kd.C Kd.string V (some ⟨G, 0, none⟩) 1 [k.p]
  | 4, v, _ => v = .pointer (some ⟨k.b15, 1, none⟩)
  | 5, v, _ => v = .slice k.Ar k.rp.length k.cr
  | 6, v, _ => v = .pointer (some ⟨k.b16, 1, none⟩)
  | 7, v, _ => v = .slice k.As k.rq.length k.cs
  | 8, v, V => ∃ G G3, v = .slice (some ⟨G, 0, none⟩) 3 3 ∧ V.cell? ⟨G, 0, none⟩ = some (.slice (some ⟨G3, 0, none⟩) 1 1) ∧ Kd.C Kd.string V (some ⟨G3, 0, none⟩) 1 [k.p] ∧ V.cell? ⟨G, 1, none⟩ = some (.slice k.Ar k.rp.length k.cr) ∧ V.cell? ⟨G, 2, none⟩ = some (.slice k.As k.rq.length k.cs)
  | 9, v, V => ∃ g c, v = .slice (some ⟨g, 0, none⟩) (1 + (k.rp.length + k.rq.length)) c ∧ 1 + (k.rp.length + k.rq.length) ≤ c ∧ g < V.heap.size ∧ ∀ j x, ([k.p] ++ (k.rp ++ k.rq))[j]? = some x → V.cell? ⟨g, 0 + j, none⟩ = some (.string x)
  | 10, v, _ => v = .int .u8 (k.sb.toNat : Int)
  | 11, v, V => ∃ G, v = .slice (some ⟨G, 0, none⟩) 1 1 ∧ V.cell? ⟨G, 0, none⟩ = some (.int .u8 (k.sb.toNat : Int))
  | 12, v, _ => v = .string ⟨#[k.sb]⟩
  | 13, v, _ => v = .string k.r
  | 14, v, V => ∃ G, v = .slice (some ⟨G, 0, none⟩) 1 1 ∧ V.cell? ⟨G, 0, none⟩ = some (.string k.r)
  | _, _, _ => True
theorem cell_b {V V' : World} (hb : Below V.heap.size V V') {a : Addr} {x : Value} (h : V.cell? a = some x) : V'.cell? a = some x := (hb.cell (World.block_lt_of_cell? _ _ h)).trans h
theorem JK.fact_below (k : JK) (j : Nat) (v : Value) {V V' : World} (h : k.fact j v V) (hb : Below V.heap.size V V') : k.fact j v V' := by
  match j, h with
  | 0, h => exact h
  | 1, h => exact h
  | 2, h => exact h
  | 3, ⟨G, e, h⟩ => exact ⟨G, e, Kd.C_below h hb⟩
  | 4, h => exact h
  | 5, h => exact h
  | 6, h => exact h
  | 7, h => exact h
  | 8, ⟨G, G3, e, h1, h2, h3, h4⟩ => exact ⟨G, G3, e, cell_b hb h1, Kd.C_below h2 hb, cell_b hb h3, cell_b hb h4⟩
  | 9, ⟨g, c, e, h1, h2, h3⟩ => exact ⟨g, c, e, h1, Nat.lt_of_lt_of_le h2 hb.size, fun j x hj => cell_b hb (h3 j x hj)⟩
  | 10, h => exact h
  | 11, ⟨G, e, h⟩ => exact ⟨G, e, cell_b hb h⟩
  | 12, h => exact h
  | 13, h => exact h
  | 14, ⟨G, e, h⟩ => exact ⟨G, e, cell_b hb h⟩
  | _ + 15, h => exact trivial
/-- Behind the append: out's box holds what it held. -/
structure MB (w W0 : World) (k : JK) (bO bE : Nat) (L : List ByteArray) (x : Value) (V : World) : Prop where
  loud : Loud k.W V
  low : Below w.heap.size w V
  keep : ∀ i, i < W0.heap.size → i ≠ bO → i ≠ bE → V.heap[i]? = W0.heap[i]?
  size : W0.heap.size ≤ V.heap.size
  out : Boxed V bO 24 k.V0
  err : Boxed V bE 27 (.int .i64 0)
  txs : Txs W0.heap.size x (L ++ [k.r]) V
structure JS (k : JK) (M : Value → World → Prop) (E : World → Prop) (L : Nat → Bool) (v : Nat → Value) (V : World) : Prop where
  pre : L 15 = false → Below k.W.heap.size k.W V ∧ ∀ j, j < 15 → L j = true → k.fact j (v j) V
  mid : L 15 = true → L 16 = false → M (v 15) V
  fin : L 16 = true → E V
theorem JS.step {k : JK} {M : Value → World → Prop} {E : World → Prop} {L : Nat → Bool} {v : Nat → Value} {V V' : World} (h : JS k M E L v V) (i : Nat) (hi : i < 15) (h15 : L 15 = false) (h16 : L 16 = false) (hb : Below V.heap.size V V') (x : Value) (hf : k.fact i x V') :
    JS k M E (fun j => if j = i then true else L j) (fun j => if j = i then x else v j) V' := by
  have n15 : ¬ 15 = i := by omega
  have n16 : ¬ 16 = i := by omega
  refine ⟨fun _ => ⟨bth (h.pre h15).1 hb, fun j hj hl => ?_⟩, fun h' => ?_, fun h' => ?_⟩
  · by_cases e : j = i
    · subst e
      simp only [if_pos]
      exact hf
    · simp only [if_neg e] at hl ⊢
      exact k.fact_below j _ ((h.pre h15).2 j hj hl) hb
  · simp only [if_neg n15] at h'
    rw [h15] at h'; cases h'
  · simp only [if_neg n16] at h'
    rw [h16] at h'; cases h'
theorem conv_atJ (W : World) (c : UInt8) (g : Nat) (h : W.cell? ⟨g, 0, none⟩ = some (.int .u8 (c.toNat : Int))) : (convert 89 9 (.slice (some ⟨g, 0, none⟩) 1 1)).run Tryz.prog W = .ok (.string ⟨#[c]⟩) W :=
  run_convert_bytes_back (P := Tryz.prog) W 89 9 5 ⟨g, 0, none⟩ 1 [c] Tryz.underlying89 Tryz.underlying5 Tryz.underlying9 (fun j hj => by
    have : j = 0 := by simpa using hj
    subst this
    exact h)
theorem own_lt {W : World} {base e s g cap : Nat} {l : List Value} {n : Nat} (h : W.ownsRow base e s (.slice (some ⟨g, 0, none⟩) n cap) n l) (h0 : 0 < n) : g < W.heap.size := by
  rcases h.2 with ⟨h1, _⟩ | ⟨g', cap', cur, he, _, h2, _⟩
  · cases h1
  · cases he; exact (Array.getElem?_eq_some_iff.1 h2).1
def bodyQ (w W0 : World) (bO bE : Nat) (L : List ByteArray) (r : ByteArray) (W : World) : Exit → Act → World → Prop
  | .normal, _, W' => Loud W W' ∧ IB w W0 bO bE (L ++ [r]) W' ∧ L.length + 1 ≤ 65536
  | .ret, _, W' => Loud W W' ∧ IR w bO bE W' ∧ 65536 < L.length + 1
  | _, _, _ => False
set_option maxHeartbeats 4000000 in
set_option maxRecDepth 100000 in
theorem join_body (l m : Nat) (hm : 1 ≤ m) (w : World) (k : JK) (W0 : World) (bS bO bE : Nat) (L : List ByteArray) (u0 u1 u2 u3 u4 u5 u6 u7 u8 u12 u13 u14 u17 u18 u19 u20 u21 u22 u23 u24 u25 u26 u27 u28 u29 u30 u31 u32 u33 u34 u35 u36 u37 u38 u39 u40 u41 u42 u43 u44 u45 u46 u47 u48 u49 u50 u51 u52 u53 u54 u55 u56 u57 u58 u59 u60 u61 u62 u63 u64 u65 u66 u67 u68 u69 u70 u71 u72 u73 u74 u75 : Value) (c : Code) (hc : bodyOf (Tryz.f21.body.getD .skip) = some c)
    (hI : IB w W0 bO bE L k.W) (hV0 : Boxed k.W bO 24 k.V0 ∧ Txs W0.heap.size k.V0 L k.W) (hS : Boxed k.W bS 5 (.int .u8 (k.sb.toNat : Int)))
    (h15 : k.W.heap[k.b15]? = some (.cells #[.string k.p, .slice k.Ar k.rp.length k.cr] 82 (0, 0))) (h16 : k.W.heap[k.b16]? = some (.cells #[.string k.q, .slice k.As k.rq.length k.cs] 82 (0, 0)))
    (hp : Kd.C Kd.string k.W k.Ar k.rp.length k.rp) (hq : Kd.C Kd.string k.W k.As k.rq.length k.rq) (kr : k.rp.length ≤ k.cr) (ks : k.rq.length ≤ k.cs) (hlen : k.rp.length + k.rq.length ≤ 4000000) (hjl : k.r.size ≤ 140737488355328) (hL : L.length ≤ 65536)
    (hbO : bO < W0.heap.size) (hbE : bE < W0.heap.size) (hOE : bO ≠ bE) (hw0 : w.heap.size ≤ bO) (hw1 : w.heap.size ≤ bE) :
    c.wpIn (Fence.wide.inRound l) m Tryz.prog (bodyQ w W0 bO bE L k.r k.W) { tmps := List.toArray (u0 :: u1 :: u2 :: u3 :: u4 :: u5 :: u6 :: u7 :: u8 :: .pointer (some ⟨bS, 0, none⟩) :: .pointer (some ⟨bO, 0, none⟩) :: .pointer (some ⟨bE, 0, none⟩) :: u12 :: u13 :: u14 :: .pointer (some ⟨k.b15, 0, none⟩) :: .pointer (some ⟨k.b16, 0, none⟩) :: u17 :: u18 :: u19 :: u20 :: u21 :: u22 :: u23 :: u24 :: u25 :: u26 :: u27 :: u28 :: u29 :: u30 :: u31 :: u32 :: u33 :: u34 :: u35 :: u36 :: u37 :: u38 :: u39 :: u40 :: u41 :: u42 :: u43 :: u44 :: u45 :: u46 :: u47 :: u48 :: u49 :: u50 :: u51 :: u52 :: u53 :: u54 :: u55 :: u56 :: u57 :: u58 :: u59 :: u60 :: u61 :: u62 :: u63 :: u64 :: u65 :: u66 :: u67 :: u68 :: u69 :: u70 :: u71 :: u72 :: u73 :: u74 :: u75 :: []), defers := [] } k.W := by
  have hmx : Tryz.prog.follows .mixedOrders = true := by kernel_rfl
  simp only [Tryz.f21, bodyOf, Option.getD, Option.some.injEq] at hc
  subst hc
  gi_wp2
  refine Reg.wpIn_region_inv2 hmx (fun LL a V => ∃ v : Nat → Value, a = { tmps := List.toArray (u0 :: u1 :: u2 :: u3 :: u4 :: u5 :: u6 :: u7 :: u8 :: .pointer (some ⟨bS, 0, none⟩) :: .pointer (some ⟨bO, 0, none⟩) :: .pointer (some ⟨bE, 0, none⟩) :: u12 :: u13 :: u14 :: .pointer (some ⟨k.b15, 0, none⟩) :: .pointer (some ⟨k.b16, 0, none⟩) :: u17 :: u18 :: u19 :: u20 :: u21 :: u22 :: u23 :: u24 :: u25 :: u26 :: u27 :: u28 :: u29 :: u30 :: u31 :: u32 :: u33 :: u34 :: u35 :: u36 :: u37 :: u38 :: u39 :: u40 :: u41 :: u42 :: u43 :: u44 :: u45 :: u46 :: u47 :: u48 :: u49 :: u50 :: u51 :: u52 :: u53 :: u54 :: u55 :: v 0 :: v 1 :: v 2 :: v 3 :: v 4 :: v 5 :: v 6 :: v 7 :: v 8 :: v 9 :: v 10 :: v 11 :: v 12 :: v 13 :: v 14 :: v 15 :: u72 :: u73 :: u74 :: u75 :: []), defers := [] } ∧ Hid (JS k (MB w W0 k bO bE L) (fun V => Loud k.W V ∧ IB w W0 bO bE (L ++ [k.r]) V) LL v V)) (by kernel_rfl) ?h0 ?hs ?hd
  case h0 => exact ⟨fun j => match j with | 0 => u56 | 1 => u57 | 2 => u58 | 3 => u59 | 4 => u60 | 5 => u61 | 6 => u62 | 7 => u63 | 8 => u64 | 9 => u65 | 10 => u66 | 11 => u67 | 12 => u68 | 13 => u69 | 14 => u70 | _ => u71, rfl, Lib.hid ⟨fun _ => ⟨bdr (Below.refl _ _), fun j _ h => (by cases h)⟩, fun h => (by cases h), fun h => (by cases h)⟩⟩
  case hd =>
    rintro LL a V ⟨v, rfl, hj⟩ hall
    obtain ⟨hld, hib⟩ := hj.out.fin (hall 16 (by decide))
    obtain ⟨x, hbx, htx⟩ := hib.out
    obtain ⟨g, c, rfl, hg⟩ := txs_slice htx (by simp)
    rw [List.length_append, List.length_singleton] at hbx
    have co := hbx.cell
    have fo := hbx.frozen
    have ce := hib.err.cell
    have fe := hib.err.frozen
    have HE := Lib.hid (And.intro hld (And.intro hib hbx))
    clear hld hib hbx htx hg hj hall
    by_cases hbig : 65536 < L.length + 1
    · have hb2 : (65536 : Int) < (L.length : Int) + 1 := by omega
      gi_wp2
      have e1 : Boxed (V.setCell ⟨bO, 0, none⟩ (.slice none 0 0)) bE 27 (.int .i64 0) := (Below.heap_setCell _ _ _ _ (Ne.symm hOE)).trans HE.out.2.1.err
      exact ⟨HE.out.1.trans ((Loud.set HE.out.2.2 rfl 0 _).trans (Loud.set e1 rfl 0 _)), ⟨(HE.out.2.1.low.setCell (p := ⟨bO, 0, none⟩) hw0 _).setCell (p := ⟨bE, 0, none⟩) hw1 _, e1.set _, (Below.heap_setCell _ _ _ _ hOE).trans (HE.out.2.2.set _)⟩, hbig⟩
    · have hb2 : ¬ (65536 : Int) < (L.length : Int) + 1 := by omega
      gi_wp2
      exact ⟨HE.out.1, HE.out.2.1, by omega⟩
  case hs =>
    rintro LL a V i ⟨v, rfl, hj⟩ hcl hi hLi hd
    have q1 := hcl 1
    have q2 := hcl 2
    have q3 := hcl 3
    have q5 := hcl 5
    have q7 := hcl 7
    have q8 := hcl 8
    have q9 := hcl 9
    have q11 := hcl 11
    have q12 := hcl 12
    have q13 := hcl 13
    have q14 := hcl 14
    have q15 := hcl 15
    have q16 := hcl 16
    simp [Reg.deps, Region.binds] at q2 q3 q5 q7 q8 q9 q11 q12 q13 q14 q15 q16
    clear hcl q1
    have hall : LL 15 = true → ∀ j, j < 15 → LL j = true := by
      intro h
      obtain ⟨a0, a14, a13⟩ := q15 h
      obtain ⟨a9, a12, _⟩ := q13 a13
      have a8 := q9 a9
      obtain ⟨a3, a5, a7⟩ := q8 a8
      have a2 := q3 a3
      have a1 := q2 a2
      have a4 := q5 a5
      have a6 := q7 a7
      have a11 := q12 a12
      have a10 := q11 a11
      intro j hj
      match j, hj with
      | 0, _ => exact a0
      | 1, _ => exact a1
      | 2, _ => exact a2
      | 3, _ => exact a3
      | 4, _ => exact a4
      | 5, _ => exact a5
      | 6, _ => exact a6
      | 7, _ => exact a7
      | 8, _ => exact a8
      | 9, _ => exact a9
      | 10, _ => exact a10
      | 11, _ => exact a11
      | 12, _ => exact a12
      | 13, _ => exact a13
      | 14, _ => exact a14
      | n + 15, h => omega
    have H16 := Lib.hid (show LL 16 = true → LL 15 = true from fun h => (q16 h).1)
    have HALL := Lib.hid hall
    clear q2 q3 q5 q7 q8 q9 q11 q12 q13 q14 q15 q16 hall
    have HN := Lib.hid (show i < 15 → LL 15 = false ∧ LL 16 = false from fun hi => by
      have h15 : LL 15 = false := by
        cases h : LL 15 with
        | false => rfl
        | true => rw [HALL.out h i hi] at hLi; cases hLi
      exact ⟨h15, by cases h : LL 16 with
        | false => rfl
        | true => rw [H16.out h] at h15; cases h15⟩)
    match i, hi, hLi, hd, HN with
    | 0, hi, hLi, hd, HN =>
      obtain ⟨n15, n16⟩ := HN.out (by decide)
      have hpre := hj.out.pre n15
      have HST := Lib.hid (fun V' hb x hf => hj.out.step 0 (by decide) n15 n16 (V' := V') hb x hf)
      have c0 := cell_b hpre.1 hV0.1.cell
      clear hpre hj HN n15 n16 hi hLi hd H16 HALL
      refine Reg.wpOpIn_of_list2 rfl ?_
      intro K' hK'
      have HK := Lib.hid hK'
      clear hK'
      gi_wp2
      refine HK.out _ _ ⟨fun j => if j = 0 then k.V0 else v j, ?_, Lib.hid (HST.out _ (Below.refl _ _) _ (rfl))⟩
      rfl
    | 1, hi, hLi, hd, HN =>
      obtain ⟨n15, n16⟩ := HN.out (by decide)
      have hpre := hj.out.pre n15
      have HST := Lib.hid (fun V' hb x hf => hj.out.step 1 (by decide) n15 n16 (V' := V') hb x hf)
      clear hpre hj HN n15 n16 hi hLi hd H16 HALL
      refine Reg.wpOpIn_of_list2 rfl ?_
      intro K' hK'
      have HK := Lib.hid hK'
      clear hK'
      gi_wp2
      refine HK.out _ _ ⟨fun j => if j = 1 then .pointer (some ⟨k.b15, 0, none⟩) else v j, ?_, Lib.hid (HST.out _ (Below.refl _ _) _ (rfl))⟩
      rfl
    | 2, hi, hLi, hd, HN =>
      simp [Reg.deps, Region.binds] at hd
      obtain ⟨n15, n16⟩ := HN.out (by decide)
      have hpre := hj.out.pre n15
      have e1 := hpre.2 1 (by decide) hd
      have HST := Lib.hid (fun V' hb x hf => hj.out.step 2 (by decide) n15 n16 (V' := V') hb x hf)
      have c15 : V.cell? ⟨k.b15, 0, none⟩ = some (.string k.p) := cell_b hpre.1 (by rw [Lib.cell_of_heap h15]; rfl)
      clear hpre hj HN n15 n16 hi hLi hd H16 HALL
      refine Reg.wpOpIn_of_list2 rfl ?_
      intro K' hK'
      have HK := Lib.hid hK'
      clear hK'
      have e1 : v 1 = .pointer (some ⟨k.b15, 0, none⟩) := e1
      rw [e1]
      gi_wp2
      refine HK.out _ _ ⟨fun j => if j = 2 then .string k.p else v j, ?_, Lib.hid (HST.out _ (Below.refl _ _) _ (rfl))⟩
      rw [← e1]; rfl
    | 3, hi, hLi, hd, HN =>
      simp [Reg.deps, Region.binds] at hd
      obtain ⟨n15, n16⟩ := HN.out (by decide)
      have hpre := hj.out.pre n15
      have e2 := hpre.2 2 (by decide) hd
      have HST := Lib.hid (fun V' hb x hf => hj.out.step 3 (by decide) n15 n16 (V' := V') hb x hf)
      clear hpre hj HN n15 n16 hi hLi hd H16 HALL
      refine Reg.wpOpIn_of_list2 rfl ?_
      intro K' hK'
      have HK := Lib.hid hK'
      clear hK'
      have e2 : v 2 = .string k.p := e2
      rw [e2]
      gi_wp2
      refine HK.out _ _ ⟨fun j => if j = 3 then .slice (some ⟨V.heap.size, 0, none⟩) 1 1 else v j, ?_, Lib.hid (HST.out _ (bal (Below.refl _ _) _) _ (⟨V.heap.size, rfl, C_strs V 9 [k.p] (by simp)⟩))⟩
      rw [← e2]; rfl
    | 4, hi, hLi, hd, HN =>
      obtain ⟨n15, n16⟩ := HN.out (by decide)
      have hpre := hj.out.pre n15
      have HST := Lib.hid (fun V' hb x hf => hj.out.step 4 (by decide) n15 n16 (V' := V') hb x hf)
      clear hpre hj HN n15 n16 hi hLi hd H16 HALL
      refine Reg.wpOpIn_of_list2 rfl ?_
      intro K' hK'
      have HK := Lib.hid hK'
      clear hK'
      gi_wp2
      refine HK.out _ _ ⟨fun j => if j = 4 then .pointer (some ⟨k.b15, 1, none⟩) else v j, ?_, Lib.hid (HST.out _ (Below.refl _ _) _ (rfl))⟩
      rfl
    | 5, hi, hLi, hd, HN =>
      simp [Reg.deps, Region.binds] at hd
      obtain ⟨n15, n16⟩ := HN.out (by decide)
      have hpre := hj.out.pre n15
      have e4 := hpre.2 4 (by decide) hd
      have HST := Lib.hid (fun V' hb x hf => hj.out.step 5 (by decide) n15 n16 (V' := V') hb x hf)
      have c15 : V.cell? ⟨k.b15, 1, none⟩ = some (.slice k.Ar k.rp.length k.cr) := cell_b hpre.1 (by rw [Lib.cell_of_heap h15]; rfl)
      clear hpre hj HN n15 n16 hi hLi hd H16 HALL
      refine Reg.wpOpIn_of_list2 rfl ?_
      intro K' hK'
      have HK := Lib.hid hK'
      clear hK'
      have e4 : v 4 = .pointer (some ⟨k.b15, 1, none⟩) := e4
      rw [e4]
      gi_wp2
      refine HK.out _ _ ⟨fun j => if j = 5 then .slice k.Ar k.rp.length k.cr else v j, ?_, Lib.hid (HST.out _ (Below.refl _ _) _ (rfl))⟩
      rw [← e4]; rfl
    | 6, hi, hLi, hd, HN =>
      obtain ⟨n15, n16⟩ := HN.out (by decide)
      have hpre := hj.out.pre n15
      have HST := Lib.hid (fun V' hb x hf => hj.out.step 6 (by decide) n15 n16 (V' := V') hb x hf)
      clear hpre hj HN n15 n16 hi hLi hd H16 HALL
      refine Reg.wpOpIn_of_list2 rfl ?_
      intro K' hK'
      have HK := Lib.hid hK'
      clear hK'
      gi_wp2
      refine HK.out _ _ ⟨fun j => if j = 6 then .pointer (some ⟨k.b16, 1, none⟩) else v j, ?_, Lib.hid (HST.out _ (Below.refl _ _) _ (rfl))⟩
      rfl
    | 7, hi, hLi, hd, HN =>
      simp [Reg.deps, Region.binds] at hd
      obtain ⟨n15, n16⟩ := HN.out (by decide)
      have hpre := hj.out.pre n15
      have e6 := hpre.2 6 (by decide) hd
      have HST := Lib.hid (fun V' hb x hf => hj.out.step 7 (by decide) n15 n16 (V' := V') hb x hf)
      have c16 : V.cell? ⟨k.b16, 1, none⟩ = some (.slice k.As k.rq.length k.cs) := cell_b hpre.1 (by rw [Lib.cell_of_heap h16]; rfl)
      clear hpre hj HN n15 n16 hi hLi hd H16 HALL
      refine Reg.wpOpIn_of_list2 rfl ?_
      intro K' hK'
      have HK := Lib.hid hK'
      clear hK'
      have e6 : v 6 = .pointer (some ⟨k.b16, 1, none⟩) := e6
      rw [e6]
      gi_wp2
      refine HK.out _ _ ⟨fun j => if j = 7 then .slice k.As k.rq.length k.cs else v j, ?_, Lib.hid (HST.out _ (Below.refl _ _) _ (rfl))⟩
      rw [← e6]; rfl
    | 8, hi, hLi, hd, HN =>
      simp [Reg.deps, Region.binds] at hd
      obtain ⟨n15, n16⟩ := HN.out (by decide)
      have hpre := hj.out.pre n15
      have e3 := hpre.2 3 (by decide) hd.1
      have e5 := hpre.2 5 (by decide) hd.2.1
      have e7 := hpre.2 7 (by decide) hd.2.2
      have HST := Lib.hid (fun V' hb x hf => hj.out.step 8 (by decide) n15 n16 (V' := V') hb x hf)
      clear hpre hj HN n15 n16 hi hLi hd H16 HALL
      refine Reg.wpOpIn_of_list2 rfl ?_
      intro K' hK'
      have HK := Lib.hid hK'
      clear hK'
      obtain ⟨G, e3, hG⟩ : ∃ G, v 3 = .slice (some ⟨G, 0, none⟩) 1 1 ∧ Kd.C Kd.string V (some ⟨G, 0, none⟩) 1 [k.p] := e3
      have e5 : v 5 = .slice k.Ar k.rp.length k.cr := e5
      have e7 : v 7 = .slice k.As k.rq.length k.cs := e7
      have HG := Lib.hid hG
      clear hG
      rw [e3, e5, e7]
      gi_wp2
      refine HK.out _ _ ⟨fun j => if j = 8 then .slice (some ⟨V.heap.size, 0, none⟩) 3 3 else v j, ?_, Lib.hid (HST.out _ (bal (Below.refl _ _) _) _ (⟨V.heap.size, G, rfl, by rw [Lib.cell_of_heap (heap_alloc_new _ _)]; rfl, Kd.C_below HG.out (bal (Below.refl _ _) _), by rw [Lib.cell_of_heap (heap_alloc_new _ _)]; rfl, by rw [Lib.cell_of_heap (heap_alloc_new _ _)]; rfl⟩))⟩
      rw [← e3, ← e5, ← e7]; rfl
    | 9, hi, hLi, hd, HN =>
      simp [Reg.deps, Region.binds] at hd
      obtain ⟨n15, n16⟩ := HN.out (by decide)
      have hpre := hj.out.pre n15
      have e8 := hpre.2 8 (by decide) hd
      have HST := Lib.hid (fun V' hb x hf => hj.out.step 9 (by decide) n15 n16 (V' := V') hb x hf)
      have hP : Hid (Below k.W.heap.size k.W V) := Lib.hid hpre.1
      clear hpre hj HN n15 n16 hi hLi hd H16 HALL
      refine Reg.wpOpIn_of_list2 rfl ?_
      intro K' hK'
      have HK := Lib.hid hK'
      clear hK'
      obtain ⟨G, G3, e8, g0, g1, g2, g3⟩ : ∃ G G3, v 8 = .slice (some ⟨G, 0, none⟩) 3 3 ∧ V.cell? ⟨G, 0, none⟩ = some (.slice (some ⟨G3, 0, none⟩) 1 1) ∧ Kd.C Kd.string V (some ⟨G3, 0, none⟩) 1 [k.p] ∧ V.cell? ⟨G, 1, none⟩ = some (.slice k.Ar k.rp.length k.cr) ∧ V.cell? ⟨G, 2, none⟩ = some (.slice k.As k.rq.length k.cs) := e8
      have HC := Lib.hid (callsIn_wide (n := m - 1) |>.2 (concat3_calls G (some ⟨G3, 0, none⟩) k.Ar k.As 1 1 k.rp.length k.cr k.rq.length k.cs [k.p] k.rp k.rq V (World.block_lt_of_cell? _ _ g0) g0 g2 g3 rfl rfl rfl g1 (Kd.C_below hp hP.out) (Kd.C_below hq hP.out) (by decide) kr ks (by omega)))
      clear g0 g1 g2 g3
      rw [e8]
      gi_wp2_with fail
      refine ⟨trivial, (CallsIn.inRound l HC.out).mono ?_⟩
      rintro e V' ⟨x, rfl, ho, hb⟩
      have ho' : Txs V.heap.size x ([k.p] ++ (k.rp ++ k.rq)) V' := by
        unfold Txs
        rw [show ([k.p] ++ (k.rp ++ k.rq)).length = 1 + (k.rp.length + k.rq.length) by simp; omega]
        exact ho
      have hl9 : ([k.p] ++ (k.rp ++ k.rq)).length = 1 + (k.rp.length + k.rq.length) := by simp; omega
      obtain ⟨g, c, rfl, hg⟩ := txs_slice ho' (by rw [hl9]; omega)
      have HO := Lib.hid (And.intro ho' (And.intro hb hl9))
      rw [hl9] at ho ⊢
      clear ho ho' hb hg hl9
      gi_wp2
      refine HK.out _ _ ⟨fun j => if j = 9 then .slice (some ⟨g, 0, none⟩) (1 + (k.rp.length + k.rq.length)) c else v j, ?_, Lib.hid (HST.out _ (HO.out.2.1) _ (⟨g, c, rfl, by have := (twin_cap HO.out.1).1; rw [HO.out.2.2] at this; exact this, own_lt HO.out.1 (by rw [HO.out.2.2]; omega), fun j x hj => by obtain ⟨h1, h2⟩ := List.getElem?_eq_some_iff.1 hj; rw [Nat.zero_add, own_at HO.out.1 j h1, h2]⟩))⟩
      rw [← e8]; rfl
    | 10, hi, hLi, hd, HN =>
      obtain ⟨n15, n16⟩ := HN.out (by decide)
      have hpre := hj.out.pre n15
      have HST := Lib.hid (fun V' hb x hf => hj.out.step 10 (by decide) n15 n16 (V' := V') hb x hf)
      have c10 := cell_b hpre.1 hS.cell
      clear hpre hj HN n15 n16 hi hLi hd H16 HALL
      refine Reg.wpOpIn_of_list2 rfl ?_
      intro K' hK'
      have HK := Lib.hid hK'
      clear hK'
      gi_wp2
      refine HK.out _ _ ⟨fun j => if j = 10 then .int .u8 (k.sb.toNat : Int) else v j, ?_, Lib.hid (HST.out _ (Below.refl _ _) _ (rfl))⟩
      rfl
    | 11, hi, hLi, hd, HN =>
      simp [Reg.deps, Region.binds] at hd
      obtain ⟨n15, n16⟩ := HN.out (by decide)
      have hpre := hj.out.pre n15
      have e10 := hpre.2 10 (by decide) hd
      have HST := Lib.hid (fun V' hb x hf => hj.out.step 11 (by decide) n15 n16 (V' := V') hb x hf)
      clear hpre hj HN n15 n16 hi hLi hd H16 HALL
      refine Reg.wpOpIn_of_list2 rfl ?_
      intro K' hK'
      have HK := Lib.hid hK'
      clear hK'
      have e10 : v 10 = .int .u8 (k.sb.toNat : Int) := e10
      rw [e10]
      gi_wp2
      refine HK.out _ _ ⟨fun j => if j = 11 then .slice (some ⟨V.heap.size, 0, none⟩) 1 1 else v j, ?_, Lib.hid (HST.out _ (bal (Below.refl _ _) _) _ (⟨V.heap.size, rfl, by rw [Lib.cell_of_heap (heap_alloc_new _ _)]; rfl⟩))⟩
      rw [← e10]; rfl
    | 12, hi, hLi, hd, HN =>
      simp [Reg.deps, Region.binds] at hd
      obtain ⟨n15, n16⟩ := HN.out (by decide)
      have hpre := hj.out.pre n15
      have e11 := hpre.2 11 (by decide) hd
      have HST := Lib.hid (fun V' hb x hf => hj.out.step 12 (by decide) n15 n16 (V' := V') hb x hf)
      clear hpre hj HN n15 n16 hi hLi hd H16 HALL
      refine Reg.wpOpIn_of_list2 rfl ?_
      intro K' hK'
      have HK := Lib.hid hK'
      clear hK'
      obtain ⟨G, e11, hG⟩ : ∃ G, v 11 = .slice (some ⟨G, 0, none⟩) 1 1 ∧ V.cell? ⟨G, 0, none⟩ = some (.int .u8 (k.sb.toNat : Int)) := e11
      have hcv := conv_atJ V k.sb G hG
      rw [e11]
      gi_wp2
      refine HK.out _ _ ⟨fun j => if j = 12 then .string ⟨#[k.sb]⟩ else v j, ?_, Lib.hid (HST.out _ (Below.refl _ _) _ (rfl))⟩
      rw [← e11]; rfl
    | 13, hi, hLi, hd, HN =>
      simp [Reg.deps, Region.binds] at hd
      obtain ⟨n15, n16⟩ := HN.out (by decide)
      have hpre := hj.out.pre n15
      have e9 := hpre.2 9 (by decide) hd.1
      have e12 := hpre.2 12 (by decide) hd.2.1
      have HST := Lib.hid (fun V' hb x hf => hj.out.step 13 (by decide) n15 n16 (V' := V') hb x hf)
      clear hpre hj HN n15 n16 hi hLi hd H16 HALL
      refine Reg.wpOpIn_of_list2 rfl ?_
      intro K' hK'
      have HK := Lib.hid hK'
      clear hK'
      obtain ⟨g, c, e9, g1, g2, g3⟩ : ∃ g c, v 9 = .slice (some ⟨g, 0, none⟩) (1 + (k.rp.length + k.rq.length)) c ∧ 1 + (k.rp.length + k.rq.length) ≤ c ∧ g < V.heap.size ∧ ∀ j x, ([k.p] ++ (k.rp ++ k.rq))[j]? = some x → V.cell? ⟨g, 0 + j, none⟩ = some (.string x) := e9
      have e12 : v 12 = .string ⟨#[k.sb]⟩ := e12
      have hl9 : ([k.p] ++ (k.rp ++ k.rq)).length = 1 + (k.rp.length + k.rq.length) := by simp; omega
      have hjn := Tryz.strings_Join g 0 c ([k.p] ++ (k.rp ++ k.rq)) ⟨#[k.sb]⟩ V g3 g2 (by rw [hl9]; omega) (by rw [hl9]; exact g1) hjl
      rw [hl9] at hjn
      have HC := Lib.hid (show CallsIn Fence.wide (m - 1) Tryz.prog 82 #[.slice (some ⟨g, 0, none⟩) (1 + (k.rp.length + k.rq.length)) c, .string ⟨#[k.sb]⟩] V fun e w' => e = .returned (.string k.r) ∧ Below V.heap.size V w' from callsIn_wide.2 hjn)
      clear g1 g2 g3 hl9 hjn
      rw [e9, e12]
      gi_wp2_with fail
      refine ⟨trivial, (CallsIn.inRound l HC.out).mono ?_⟩
      rintro e V' ⟨rfl, hb⟩
      have HB := Lib.hid hb
      clear hb
      gi_wp2
      refine HK.out _ _ ⟨fun j => if j = 13 then .string k.r else v j, ?_, Lib.hid (HST.out _ (HB.out) _ (rfl))⟩
      rw [← e9, ← e12]; rfl
    | 14, hi, hLi, hd, HN =>
      simp [Reg.deps, Region.binds] at hd
      obtain ⟨n15, n16⟩ := HN.out (by decide)
      have hpre := hj.out.pre n15
      have e13 := hpre.2 13 (by decide) hd
      have HST := Lib.hid (fun V' hb x hf => hj.out.step 14 (by decide) n15 n16 (V' := V') hb x hf)
      clear hpre hj HN n15 n16 hi hLi hd H16 HALL
      refine Reg.wpOpIn_of_list2 rfl ?_
      intro K' hK'
      have HK := Lib.hid hK'
      clear hK'
      have e13 : v 13 = .string k.r := e13
      rw [e13]
      gi_wp2
      refine HK.out _ _ ⟨fun j => if j = 14 then .slice (some ⟨V.heap.size, 0, none⟩) 1 1 else v j, ?_, Lib.hid (HST.out _ (bal (Below.refl _ _) _) _ (⟨V.heap.size, rfl, by rw [Lib.cell_of_heap (heap_alloc_new _ _)]; rfl⟩))⟩
      rw [← e13]; rfl
    | 15, hi, hLi, hd, HN =>
      simp [Reg.deps, Region.binds] at hd
      have hpre := hj.out.pre hLi
      have e0 : v 0 = k.V0 := hpre.2 0 (by decide) hd.1
      obtain ⟨G, e14, hG⟩ : ∃ G, v 14 = .slice (some ⟨G, 0, none⟩) 1 1 ∧ V.cell? ⟨G, 0, none⟩ = some (.string k.r) := hpre.2 14 (by decide) hd.2.1
      have hb := hpre.1
      have n16 : ¬ LL 16 = true := fun h => by rw [H16.out h] at hLi; cases hLi
      have hown : Txs W0.heap.size k.V0 L V := hV0.2.below hb
      have hlowV : Below w.heap.size w V := bth hI.low hb
      have hsz : W0.heap.size ≤ V.heap.size := Nat.le_trans hI.size hb.size
      refine Reg.wpOpIn_of_list2 rfl ?_
      intro K' hK'
      obtain ⟨i0, hi0, hz0, hz1, hz2⟩ := info_parts infoS
      refine wpListIn_append_own V rfl (.tmp 56) (.tmp 70) 24 rfl W0.heap.size 9 i0 _ 1 16 Tryz.underlying24 hi0 hz0 hz1 hz2 rfl (by decide) k.V0 L.length (strs L) e0 hown ⟨G, 0, none⟩ 1 1 [.string k.r] e14 rfl ?_ ?_ ?_ ?_ hsz ?_
      · intro j u hju
        match j, hju with
        | 0, hju => simp at hju; subst hju; simpa [Addr.add] using hG
        | j + 1, hju => simp at hju
      · intro u hu; simp at hu; subst hu; rfl
      · unfold maxLen; omega
      · omega
      · intro x w' hx hg _
        refine hK' _ _ ⟨fun j => if j = 15 then x else v j, rfl, Lib.hid ⟨(fun h => by cases h), fun _ _ => ?_, fun h => absurd h n16⟩⟩
        have hx' : Txs W0.heap.size x (L ++ [k.r]) w' := by unfold Txs; rw [List.length_append, strs_append]; exact hx
        have hrow : ∀ i, k.V0.ownBlock = some i → W0.heap.size ≤ i := fun i hi => own_base hown i hi
        exact ⟨(Loud.below hb).trans (Loud.grown hown hg), hlowV.grown hg hlowV.size (fun i hi => by have := hrow i hi; omega),
          fun i h1 h2 h3 => (hg.block i (by omega) (fun e => by have := hrow i e.symm; omega)).trans ((hb.block i (by have := hI.size; omega)).trans (hI.keep i h1 h2 h3)),
          Nat.le_trans hsz hg.size, (show Boxed V bO _ _ from (hb.block _ hV0.1.lt).trans hV0.1).kept hg (fun e => by have := hrow bO e.symm; omega), (show Boxed V bE _ _ from (hb.block _ hI.err.lt).trans hI.err).kept hg (fun e => by have := hrow bE e.symm; omega), hx'⟩
    | 16, hi, hLi, hd, HN =>
      simp [Reg.deps, Region.binds] at hd
      have hmid := hj.out.mid hd.1 hLi
      obtain ⟨g, c, e15, hg⟩ := txs_slice hmid.txs (by simp)
      rw [List.length_append, List.length_singleton] at e15
      have H15 := Lib.hid hd.1
      have hEND : Loud k.W (V.setCell ⟨bO, 0, none⟩ (v 15)) ∧ IB w W0 bO bE (L ++ [k.r]) (V.setCell ⟨bO, 0, none⟩ (v 15)) := ⟨hmid.loud.trans (Loud.set hmid.out rfl 0 _), hmid.low.setCell (p := ⟨bO, 0, none⟩) hw0 _, fun i h1 h2 h3 => (Below.heap_setCell _ _ _ i h2).trans (hmid.keep i h1 h2 h3), by simpa [World.setCell] using hmid.size, (Below.heap_setCell _ _ _ _ (Ne.symm hOE)).trans hmid.err, _, hmid.out.set _, ownsRow_setCell_below (a := ⟨bO, 0, none⟩) hmid.txs hbO _⟩
      rw [e15] at hEND
      have HEND := Lib.hid hEND
      have hM := Lib.hid hmid
      have co := hmid.out.cell
      have fo := hmid.out.frozen
      clear hj HN hi hLi hd H16 HALL hmid hg hEND
      refine Reg.wpOpIn_of_list2 rfl ?_
      intro K' hK'
      have HK := Lib.hid hK'
      clear hK'
      rw [e15]
      gi_wp2
      refine HK.out _ _ ⟨v, ?_, Lib.hid ⟨fun h => ?_, fun _ h => ?_, fun _ => ?_⟩⟩
      · rw [← e15]
      · have h : LL 15 = false := h
        rw [H15.out] at h
        cases h
      · cases h
      · exact HEND.out
    | _ + 17, hi, _, _, _ => simp at hi; omega
end Go.Proofs.YtlicjpbmlmongaaGreatDoor.C

end
section
/- views.Join: the loop. -/
set_option linter.unusedVariables false
set_option linter.unusedSimpArgs false
namespace Go.Proofs.YtlicjpbmlmongaaGreatDoor.C
open Go.RowKit Go.Shelf Go.BigFrame Go.Proofs Go.Proofs.YtlicjpbmlmongaaGreatDoor.H Go.Proofs.YtlicjpbmlmongaaGreatDoor.S Go.Proofs.YtlicjpbmlmongaaGreatDoorW.PrintWords

attribute [local go_sem] Oper.semAt_some
/-- The first range over a function in a text. -/
def rangeOf : Code → Option Code
  | .seq a b => match rangeOf a with
    | some c => some c
    | none => rangeOf b
  | .cond _ a b => match rangeOf a with
    | some c => some c
    | none => rangeOf b
  | .block _ c => rangeOf c
  | .rangeFunc g ps a b => some (.rangeFunc g ps a b)
  | _ => none
/-- The byte that is put between. -/
def sepOf (c : Int) : Int := if c = 0 then 32 else c
def betwB (c : Int) : UInt8 := UInt8.ofNat (sepOf c).toNat
theorem betwB_int (c : Int) (h0 : 0 ≤ c) (h1 : c < 256) : ((betwB c).toNat : Int) = sepOf c := by
  have h2 : 0 ≤ sepOf c ∧ sepOf c < 256 := by unfold sepOf; split <;> omega
  unfold betwB
  rw [UInt8.toNat_ofNat']
  omega
/-- A line of the answer. -/
def lineJ (c : Int) (x y : FR) : ByteArray := ⟨(Lib.join (([x.1] ++ (x.2 ++ y.2)).map (·.data.toList)) [betwB c]).toArray⟩
def linesJ (c : Int) (X Y : List FR) : List ByteArray := (pairsI (X.map (·.1)) (Y.map (·.1)) X.length).map fun p => lineJ c (X.getD p.1 (⟨#[]⟩, [])) (Y.getD p.2 (⟨#[]⟩, []))
/-- A field, and the others, that are short. -/
def Short (x : FR) : Prop := x.1.size ≤ 20000 ∧ x.2.length ≤ 20001 ∧ ∀ s ∈ x.2, s.size ≤ 20000
theorem lens_le (n : Nat) : ∀ (l : List (List UInt8)), (∀ s ∈ l, s.length ≤ n) → Lib.lens l ≤ n * l.length
  | [], _ => by simp [Lib.lens]
  | a :: l, h => by
    have h1 := h a (List.mem_cons_self ..)
    have h2 := lens_le n l (fun s hs => h s (List.mem_cons_of_mem _ hs))
    have h3 : Lib.lens (a :: l) = a.length + Lib.lens l := by simp [Lib.lens]
    rw [h3]
    simp only [List.length_cons, Nat.mul_add, Nat.mul_one]
    omega
theorem lineJ_size (c : Int) (x y : FR) (hx : Short x) (hy : Short y) : (lineJ c x y).size ≤ 1000000000 := by
  unfold lineJ
  show (Lib.join (([x.1] ++ (x.2 ++ y.2)).map (·.data.toList)) [betwB c]).toArray.size ≤ _
  rw [List.size_toArray, List.singleton_append, List.map_cons, Lib.join_length, List.length_map, List.length_append, ← List.map_cons (f := fun s : ByteArray => s.data.toList)]
  have h := lens_le 20000 ((x.1 :: (x.2 ++ y.2)).map (·.data.toList)) (fun s hs => by
    obtain ⟨t, ht, rfl⟩ := List.mem_map.1 hs
    rw [← Lib.size_eq]
    rcases List.mem_cons.1 ht with rfl | ht
    · exact hx.1
    · rcases List.mem_append.1 ht with ht | ht
      · exact hx.2.2 t ht
      · exact hy.2.2 t ht)
  rw [List.length_map, List.length_cons, List.length_append] at h
  have h1 := hx.2.1
  have h2 := hy.2.1
  simp only [List.length_singleton]
  omega
theorem FOwn.row_of {base : Nat} {A : Option Addr} {n c : Nat} {X : List (FR × Value)} {W : World} (h : FOwn base (.slice A n c) X W) (hl : X.length ≤ 1000000) : FRow W A c X := by
  have hs : ∀ x ∈ X, ∃ A n c, x.2 = .slice A n c := fun x hx => by obtain ⟨A, c, e, _, _⟩ := (h.txs x hx).reads; exact ⟨A, _, c, e⟩
  obtain ⟨A', c', e, h1, h2, h3⟩ := h.reads
  injection e with e1 e2 e3
  subst e1 e3
  refine ⟨h1, hl, h2, hs, ?_, fun h0 => ?_⟩
  · rcases h.row.2 with ⟨e, h0⟩ | ⟨g, cap, cur, e, _⟩
    · injection e with e1 e2 e3
      exact .inl ⟨e1, e3, h0⟩
    · injection e with e1 e2 e3
      exact .inr ⟨g, e1⟩
  · obtain ⟨g, e, _, _, hc⟩ := h3 h0
    rcases h.row.2 with ⟨e', h0'⟩ | ⟨g', cap, cur, e', _, hg, _⟩
    · omega
    · injection e' with e1 e2 e3
      rw [e] at e1
      obtain rfl : g = g' := by injection e1 with e1; injection e1
      exact ⟨g, cur, _, e, hg, hc⟩
theorem txs_keep {base : Nat} {v : Value} {l : List ByteArray} {A B : World} (h : Txs base v l A) (hk : ∀ (g : Nat) (cs : Array Value) (fz : Nat × Nat), A.heap[g]? = some (Obj.cells cs 9 fz) → B.heap[g]? = A.heap[g]?) : Txs base v l B := by
  refine ⟨h.1, ?_⟩
  rcases h.2 with h' | ⟨g, cap, cur, e, h1, h2, h3⟩
  · exact .inl h'
  · exact .inr ⟨g, cap, cur, e, h1, (hk g cur _ h2).trans h2, h3⟩
theorem IB.own {w W0 : World} {bO bE : Nat} (hO : bO < W0.heap.size) (hE : bE < W0.heap.size) (hwB : w.heap.size ≤ W0.heap.size) : ∀ (L : List ByteArray) (W W' : World) (row : Option Nat), IB w W0 bO bE L W → W.grownBy W' row → (∀ r, row = some r → W0.heap.size ≤ r ∧ ∃ o : Obj, W.heap[r]? = some o ∧ o.isCells = false) → IB w W0 bO bE L W' := by
  intro L W W' row h hg hr
  have hne : ∀ i, i < W0.heap.size → some i ≠ row := fun i hi e => by have := (hr i e.symm).1; omega
  obtain ⟨v, hb, ht⟩ := h.out
  refine ⟨h.low.grown hg h.low.size (fun r e => by have := (hr r e).1; omega), fun i h1 h2 h3 => (hg.block i (Nat.lt_of_lt_of_le h1 h.size) (hne i h1)).trans (h.keep i h1 h2 h3), Nat.le_trans h.size hg.size, h.err.kept hg (hne bE hE), v, hb.kept hg (hne bO hO), ?_⟩
  refine ht.kept hg ?_
  rcases ht.2 with ⟨rfl, _⟩ | ⟨g, cap, cur, rfl, _, hgb, _⟩
  · exact .inl rfl
  · refine .inr fun e' => ?_
    obtain ⟨o, ho, hc⟩ := (hr g (by simpa [Value.ownBlock] using e'.symm)).2
    rw [hgb] at ho
    cases ho
    cases hc
theorem IR.own {w : World} {B bO bE : Nat} (hO : bO < B) (hE : bE < B) (hwB : w.heap.size ≤ B) : ∀ (W W' : World) (row : Option Nat), IR w bO bE W → W.grownBy W' row → (∀ r, row = some r → B ≤ r ∧ ∃ o : Obj, W.heap[r]? = some o ∧ o.isCells = false) → IR w bO bE W' := by
  intro W W' row h hg hr
  have hne : ∀ i, i < B → some i ≠ row := fun i hi e => by have := (hr i e.symm).1; omega
  exact ⟨h.low.grown hg h.low.size (fun r e => by have := (hr r e).1; omega), h.err.kept hg (hne bE hE), h.out.kept hg (hne bO hO)⟩
def lineP (c : Int) (X Y : List (FR × Value)) (p : PP X.length Y.length) : ByteArray := lineJ c (X[p.1.1]'p.2.1).1 (Y[p.1.2]'p.2.2).1
theorem linesP (c : Int) (X Y : List (FR × Value)) (xs : List (PP X.length Y.length)) (h : xs.map (·.1) = pairsI (X.map (·.1.1)) (Y.map (·.1.1)) X.length) : xs.map (lineP c X Y) = linesJ c (X.map (·.1)) (Y.map (·.1)) := by
  unfold linesJ
  rw [List.map_map, List.map_map, List.length_map]
  show _ = (pairsI (X.map (·.1.1)) (Y.map (·.1.1)) X.length).map _
  rw [← h, List.map_map]
  refine List.map_congr_left fun p _ => ?_
  unfold lineP
  simp only [Function.comp, List.getD_eq_getElem?_getD, List.getElem?_map, List.getElem?_eq_getElem p.2.1, List.getElem?_eq_getElem p.2.2, Option.map_some, Option.getD_some]
set_option maxHeartbeats 4000000 in
set_option maxRecDepth 100000 in
theorem join_range (F : Fence) (n : Nat) (hF : Fence.wide = F) (hn : 4 ≤ n) (w W0 : World) (c : Int) (hc0 : 0 ≤ c) (hc1 : c < 256) (bS bO bE Bx By : Nat) (A1 A2 : Option Addr) (c1 c2 : Nat) (X Y : List (FR × Value)) (u0 u1 u2 u3 u4 u5 u6 u7 u8 u12 u13 u14 u15 u16 u17 u18 u19 u20 u21 u22 u23 u24 u25 u26 u27 u28 u29 u30 u31 u32 u33 u34 u35 u36 u37 u38 u39 u40 u41 u42 u43 u44 u45 u46 u47 u48 u49 u50 u51 u52 u54 u55 u56 u57 u58 u59 u60 u61 u62 u63 u64 u65 u66 u67 u68 u69 u70 u71 u72 u73 u74 u75 : Value) (rc : Code) (hrc : rangeOf (Tryz.f21.body.getD .skip) = some rc) {Q : Exit → Act → World → Prop}
    (hS : Boxed W0 bS 5 (.int .u8 (sepOf c))) (hO : Boxed W0 bO 24 (.slice none 0 0)) (hE : Boxed W0 bE 27 (.int .i64 0)) (hBx : Boxed W0 Bx 79 (.slice A1 X.length c1)) (hBy : Boxed W0 By 79 (.slice A2 Y.length c2))
    (hX : FOwn w.heap.size (.slice A1 X.length c1) X W0) (hY : FOwn w.heap.size (.slice A2 Y.length c2) Y W0) (hlX : X.length ≤ 1000000) (hlY : Y.length ≤ 1000000) (hsX : ∀ x ∈ X, Short x.1) (hsY : ∀ x ∈ Y, Short x.1)
    (hlow : Below w.heap.size w W0) (hw0 : w.heap.size ≤ bO) (hw1 : w.heap.size ≤ bE) (hOE : bO ≠ bE)
    (hdone : ∀ (D : Nat) (W : World), W0.heap.size ≤ D → (linesJ c (X.map (·.1)) (Y.map (·.1))).length ≤ 65536 → IB w W0 bO bE (linesJ c (X.map (·.1)) (Y.map (·.1))) W → W.heap[D]? = some (.deferred (some [])) → Q .normal { tmps := List.toArray (u0 :: u1 :: u2 :: u3 :: u4 :: u5 :: u6 :: u7 :: u8 :: .pointer (some ⟨bS, 0, none⟩) :: .pointer (some ⟨bO, 0, none⟩) :: .pointer (some ⟨bE, 0, none⟩) :: u12 :: u13 :: u14 :: u15 :: u16 :: u17 :: u18 :: u19 :: u20 :: u21 :: u22 :: u23 :: u24 :: u25 :: u26 :: u27 :: u28 :: u29 :: u30 :: u31 :: u32 :: u33 :: u34 :: u35 :: u36 :: u37 :: u38 :: u39 :: u40 :: u41 :: u42 :: u43 :: u44 :: u45 :: u46 :: u47 :: u48 :: u49 :: u50 :: u51 :: u52 :: .func (.func 127) #[] #[.pointer (some ⟨Bx, 0, none⟩), .pointer (some ⟨By, 0, none⟩)] :: u54 :: u55 :: u56 :: u57 :: u58 :: u59 :: u60 :: u61 :: u62 :: u63 :: u64 :: u65 :: u66 :: u67 :: u68 :: u69 :: u70 :: u71 :: u72 :: u73 :: u74 :: u75 :: []), defers := [{ target := .collected D, args := #[] }] } W)
    (hstop : ∀ (D : Nat) (W : World), W0.heap.size ≤ D → 65536 < (linesJ c (X.map (·.1)) (Y.map (·.1))).length → IR w bO bE W → W.heap[D]? = some (.deferred (some [])) → Code.ret.wpIn F n Tryz.prog Q { tmps := List.toArray (u0 :: u1 :: u2 :: u3 :: u4 :: u5 :: u6 :: u7 :: u8 :: .pointer (some ⟨bS, 0, none⟩) :: .pointer (some ⟨bO, 0, none⟩) :: .pointer (some ⟨bE, 0, none⟩) :: u12 :: u13 :: u14 :: u15 :: u16 :: u17 :: u18 :: u19 :: u20 :: u21 :: u22 :: u23 :: u24 :: u25 :: u26 :: u27 :: u28 :: u29 :: u30 :: u31 :: u32 :: u33 :: u34 :: u35 :: u36 :: u37 :: u38 :: u39 :: u40 :: u41 :: u42 :: u43 :: u44 :: u45 :: u46 :: u47 :: u48 :: u49 :: u50 :: u51 :: u52 :: .func (.func 127) #[] #[.pointer (some ⟨Bx, 0, none⟩), .pointer (some ⟨By, 0, none⟩)] :: u54 :: u55 :: u56 :: u57 :: u58 :: u59 :: u60 :: u61 :: u62 :: u63 :: u64 :: u65 :: u66 :: u67 :: u68 :: u69 :: u70 :: u71 :: u72 :: u73 :: u74 :: u75 :: []), defers := [{ target := .collected D, args := #[] }] } W) :
    rc.wpIn F n Tryz.prog Q { tmps := List.toArray (u0 :: u1 :: u2 :: u3 :: u4 :: u5 :: u6 :: u7 :: u8 :: .pointer (some ⟨bS, 0, none⟩) :: .pointer (some ⟨bO, 0, none⟩) :: .pointer (some ⟨bE, 0, none⟩) :: u12 :: u13 :: u14 :: u15 :: u16 :: u17 :: u18 :: u19 :: u20 :: u21 :: u22 :: u23 :: u24 :: u25 :: u26 :: u27 :: u28 :: u29 :: u30 :: u31 :: u32 :: u33 :: u34 :: u35 :: u36 :: u37 :: u38 :: u39 :: u40 :: u41 :: u42 :: u43 :: u44 :: u45 :: u46 :: u47 :: u48 :: u49 :: u50 :: u51 :: u52 :: .func (.func 127) #[] #[.pointer (some ⟨Bx, 0, none⟩), .pointer (some ⟨By, 0, none⟩)] :: u54 :: u55 :: u56 :: u57 :: u58 :: u59 :: u60 :: u61 :: u62 :: u63 :: u64 :: u65 :: u66 :: u67 :: u68 :: u69 :: u70 :: u71 :: u72 :: u73 :: u74 :: u75 :: []), defers := [] } W0 := by
  have h1 : 1 ≤ n := by omega
  have hro : F.round = none := by rw [← hF]; rfl
  have hcP1 : F.fn 127 := by rw [← hF]; trivial
  simp only [Tryz.f21, rangeOf, Option.getD, Option.some.injEq] at hrc
  subst hrc
  refine wpIn_rangeFunc_asg hro h1 (gf := 127) (lb := #[.pointer (some ⟨Bx, 0, none⟩), .pointer (some ⟨By, 0, none⟩)]) rfl hcP1 (enters_of Tryz.func127 (by kernel_rfl) rfl)
    (pairs_seq F (n - 1) hcP1 hro (by omega) Bx By A1 A2 c1 c2 X Y W0 hBx hBy (hX.row_of hlX) (hY.row_of hlY))
    KpT.trans (fun A B h => KpT.below h) (fun W l o o' _ h hc => KpT.put W l o o' h hc) (fun _ => rfl)
    (fun pre W => IB w W0 bO bE (pre.map (lineP c X Y)) W ∧ pre.length ≤ 65536)
    (fun cd pre W => cd = .ret ∧ IR w bO bE W ∧ 65536 < pre.length)
    (fun pre A B row h hg hr => ⟨IB.own hO.lt hE.lt hlow.size _ A B row h.1 hg hr, h.2⟩)
    (fun cd pre A B row h hg hr => ⟨h.1, IR.own hO.lt hE.lt hlow.size A B row h.2.1 hg hr, h.2.2⟩)
    ⟨⟨hlow, fun _ _ _ _ => rfl, Nat.le_refl _, hE, _, hO, World.ownsRow_nil _ _ _ _⟩, Nat.zero_le _⟩
    (fun x a1 W => ∃ (b15 b16 : Nat) (u0 u1 u2 u3 u4 u5 u6 u7 u8 u12 u13 u14 u17 u18 u19 u20 u21 u22 u23 u24 u25 u26 u27 u28 u29 u30 u31 u32 u33 u34 u35 u36 u37 u38 u39 u40 u41 u42 u43 u44 u45 u46 u47 u48 u49 u50 u51 u52 u53 u54 u55 u56 u57 u58 u59 u60 u61 u62 u63 u64 u65 u66 u67 u68 u69 u70 u71 u72 u73 u74 u75 : Value), a1 = { tmps := List.toArray (u0 :: u1 :: u2 :: u3 :: u4 :: u5 :: u6 :: u7 :: u8 :: .pointer (some ⟨bS, 0, none⟩) :: .pointer (some ⟨bO, 0, none⟩) :: .pointer (some ⟨bE, 0, none⟩) :: u12 :: u13 :: u14 :: .pointer (some ⟨b15, 0, none⟩) :: .pointer (some ⟨b16, 0, none⟩) :: u17 :: u18 :: u19 :: u20 :: u21 :: u22 :: u23 :: u24 :: u25 :: u26 :: u27 :: u28 :: u29 :: u30 :: u31 :: u32 :: u33 :: u34 :: u35 :: u36 :: u37 :: u38 :: u39 :: u40 :: u41 :: u42 :: u43 :: u44 :: u45 :: u46 :: u47 :: u48 :: u49 :: u50 :: u51 :: u52 :: u53 :: u54 :: u55 :: u56 :: u57 :: u58 :: u59 :: u60 :: u61 :: u62 :: u63 :: u64 :: u65 :: u66 :: u67 :: u68 :: u69 :: u70 :: u71 :: u72 :: u73 :: u74 :: u75 :: []), defers := [] } ∧ W.heap[b15]? = some (.cells #[.string (X[x.1.1]'x.2.1).1.1, (X[x.1.1]'x.2.1).2] 82 (0, 0)) ∧ W.heap[b16]? = some (.cells #[.string (Y[x.1.2]'x.2.2).1.1, (Y[x.1.2]'x.2.2).2] 82 (0, 0)))
    ?hAsg ?hassign ?hbody ?hdone ?hstop
  case hAsg =>
    rintro x a1 _ A B row ⟨b15, b16, u0, u1, u2, u3, u4, u5, u6, u7, u8, u12, u13, u14, u17, u18, u19, u20, u21, u22, u23, u24, u25, u26, u27, u28, u29, u30, u31, u32, u33, u34, u35, u36, u37, u38, u39, u40, u41, u42, u43, u44, u45, u46, u47, u48, u49, u50, u51, u52, u53, u54, u55, u56, u57, u58, u59, u60, u61, u62, u63, u64, u65, u66, u67, u68, u69, u70, u71, u72, u73, u74, u75, ha, h15, h16⟩ hg hr
    have hk : ∀ {b : Nat} {cs : Array Value} {t : TypeId} {fz : Nat × Nat}, A.heap[b]? = some (.cells cs t fz) → B.heap[b]? = some (.cells cs t fz) := fun {b cs t fz} h => (hg.block b (Array.getElem?_eq_some_iff.1 h).1 (fun e => by
      obtain ⟨_, o, ho, hc⟩ := hr b e.symm
      rw [h] at ho
      cases ho
      cases hc)).trans h
    exact ⟨b15, b16, u0, u1, u2, u3, u4, u5, u6, u7, u8, u12, u13, u14, u17, u18, u19, u20, u21, u22, u23, u24, u25, u26, u27, u28, u29, u30, u31, u32, u33, u34, u35, u36, u37, u38, u39, u40, u41, u42, u43, u44, u45, u46, u47, u48, u49, u50, u51, u52, u53, u54, u55, u56, u57, u58, u59, u60, u61, u62, u63, u64, u65, u66, u67, u68, u69, u70, u71, u72, u73, u74, u75, ha, hk h15, hk h16⟩
  case hassign =>
    rintro l ⟨⟨i, j⟩, hi, hj⟩ W K hK
    have hi : i < X.length := hi
    have hj : j < Y.length := hj
    obtain ⟨x, hx⟩ : ∃ x, X[i]'hi = x := ⟨_, rfl⟩
    obtain ⟨y, hy⟩ : ∃ y, Y[j]'hj = y := ⟨_, rfl⟩
    obtain ⟨Ar, nr, cr, er⟩ := (hX.row_of hlX).shape x (hx ▸ List.getElem_mem hi)
    obtain ⟨As, ns, cs, es⟩ := (hY.row_of hlY).shape y (hy ▸ List.getElem_mem hj)
    have he : encP X Y ⟨(i, j), hi, hj⟩ = #[.agg #[.string x.1.1, .slice Ar nr cr], .agg #[.string y.1.1, .slice As ns cs]] := by
      unfold encP aggF
      simp only [hx, hy, er, es]
    rw [he]
    have HK := Lib.hid hK
    have HX := Lib.hid (And.intro hx (And.intro hy (And.intro er es)))
    clear hK hx hy er es he hdone hstop
    gi_wp2
    refine HK.out _ _ (bal (bal (Below.refl _ _) _) _) ⟨W.heap.size, W.heap.size + 1, _, _, _, _, _, _, _, _, _, _, _, _, _, _, _, _, _, _, _, _, _, _, _, _, _, _, _, _, _, _, _, _, _, _, _, _, _, _, _, _, _, _, _, _, _, _, _, _, _, _, _, _, _, _, _, _, _, _, _, _, _, _, _, _, _, _, _, _, _, _, _, rfl, ?_, ?_⟩
    · rw [HX.out.1, HX.out.2.2.1, Lib.alloc_old _ _ _ (by simp)]
      exact heap_alloc_new _ _
    · rw [HX.out.2.1, HX.out.2.2.2]
      have := heap_alloc_new (W.alloc (.cells #[.string x.1.1, .slice Ar nr cr] 82)) (.cells #[.string y.1.1, .slice As ns cs] 82)
      rw [World.size_alloc] at this
      exact this
  case hbody =>
    rintro l pre ⟨⟨i, j⟩, hi, hj⟩ a1 W hI hlen ⟨b15, b16, u0, u1, u2, u3, u4, u5, u6, u7, u8, u12, u13, u14, u17, u18, u19, u20, u21, u22, u23, u24, u25, u26, u27, u28, u29, u30, u31, u32, u33, u34, u35, u36, u37, u38, u39, u40, u41, u42, u43, u44, u45, u46, u47, u48, u49, u50, u51, u52, u53, u54, u55, u56, u57, u58, u59, u60, u61, u62, u63, u64, u65, u66, u67, u68, u69, u70, u71, u72, u73, u74, u75, rfl, h15, h16⟩
    have hi : i < X.length := hi
    have hj : j < Y.length := hj
    obtain ⟨x, hx⟩ : ∃ x, X[i]'hi = x := ⟨_, rfl⟩
    obtain ⟨y, hy⟩ : ∃ y, Y[j]'hj = y := ⟨_, rfl⟩
    have hxm : x ∈ X := hx ▸ List.getElem_mem hi
    have hym : y ∈ Y := hy ▸ List.getElem_mem hj
    have hkk : ∀ (g : Nat) (cs : Array Value) (fz : Nat × Nat), W0.heap[g]? = some (Obj.cells cs 9 fz) → W.heap[g]? = W0.heap[g]? := fun g cs fz hg => hI.1.keep g (Array.getElem?_eq_some_iff.1 hg).1 (fun e => by rw [e, show W0.heap[bO]? = _ from hO] at hg; cases hg) (fun e => by rw [e, show W0.heap[bE]? = _ from hE] at hg; cases hg)
    obtain ⟨Ar, cr, er, kr, Cr⟩ := (txs_keep (hX.txs x hxm) hkk).reads
    obtain ⟨As, cs, es, ks, Cs⟩ := (txs_keep (hY.txs y hym) hkk).reads
    obtain ⟨V0, hb0, ht0⟩ := hI.1.out
    have hbS : Boxed W bS 5 (.int .u8 ((betwB c).toNat : Int)) := by
      rw [betwB_int c hc0 hc1]
      exact (hI.1.keep bS hS.lt (fun e => by rw [← e] at hO; have := (show W0.heap[bS]? = _ from hS).symm.trans hO; simp at this) (fun e => by rw [← e] at hE; have := (show W0.heap[bS]? = _ from hS).symm.trans hE; simp at this)).trans hS
    have h15' : W.heap[b15]? = some (.cells #[.string x.1.1, .slice Ar x.1.2.length cr] 82 (0, 0)) := by rw [← er, ← hx]; exact h15
    have h16' : W.heap[b16]? = some (.cells #[.string y.1.1, .slice As y.1.2.length cs] 82 (0, 0)) := by rw [← es, ← hy]; exact h16
    have sx := hsX x hxm
    have sy := hsY y hym
    rw [← hF]
    refine wpIn_mono (join_body l (n - 1 - 1) (by omega) w ⟨W, b15, b16, V0, x.1.1, y.1.1, Ar, As, cr, cs, x.1.2, y.1.2, betwB c⟩ W0 bS bO bE (pre.map (lineP c X Y)) u0 u1 u2 u3 u4 u5 u6 u7 u8 u12 u13 u14 u17 u18 u19 u20 u21 u22 u23 u24 u25 u26 u27 u28 u29 u30 u31 u32 u33 u34 u35 u36 u37 u38 u39 u40 u41 u42 u43 u44 u45 u46 u47 u48 u49 u50 u51 u52 u53 u54 u55 u56 u57 u58 u59 u60 u61 u62 u63 u64 u65 u66 u67 u68 u69 u70 u71 u72 u73 u74 u75 _ (by kernel_rfl) hI.1 ⟨hb0, ht0⟩ hbS h15' h16' Cr Cs kr ks (by have := sx.2.1; have := sy.2.1; show x.1.2.length + y.1.2.length ≤ _; omega) (Nat.le_trans (lineJ_size c x.1 y.1 sx sy) (by decide)) (by rw [List.length_map]; exact hI.2) hO.lt hE.lt hOE hw0 hw1) ?_
    have hline : (pre ++ [(⟨(i, j), hi, hj⟩ : PP X.length Y.length)]).map (lineP c X Y) = pre.map (lineP c X Y) ++ [lineJ c x.1 y.1] := by
      rw [List.map_append]
      show _ ++ [lineP c X Y ⟨(i, j), hi, hj⟩] = _
      unfold lineP
      simp only [hx, hy]
    have hloud : ∀ A B, Loud A B → KeepsFrom W0.heap.size A B ∧ KpT A B := fun A B h => ⟨⟨h.size, fun k o _ hk ho => h.same k o hk (by cases o <;> first | rfl | cases ho)⟩, h.size, fun k cs fz hk => h.same k _ hk rfl, fun k cs fz hk => h.same k _ hk rfl⟩
    rintro e a2 W2 hq
    cases e with
    | normal =>
      obtain ⟨q1, q2, q3⟩ := hq
      refine ⟨(hloud _ _ q1).1, (hloud _ _ q1).2, ?_, ?_⟩
      · rw [hline]; exact q2
      · rw [List.length_append, List.length_singleton]; rw [List.length_map] at q3; exact q3
    | ret =>
      obtain ⟨q1, q2, q3⟩ := hq
      refine ⟨(hloud _ _ q1).1, rfl, q2, ?_⟩
      rw [List.length_append, List.length_singleton]; rw [List.length_map] at q3; exact q3
    | _ => exact hq.elim
  case hdone =>
    rintro D xs W hD hS' hI hDD
    have e := linesP c X Y xs hS'
    have hl : (linesJ c (X.map (·.1)) (Y.map (·.1))).length ≤ 65536 := by rw [← e, List.length_map]; exact hI.2
    exact hdone D W hD hl (by rw [← e]; exact hI.1) hDD
  case hstop =>
    rintro D cd pre W hD hSp ⟨rfl, hR, hl⟩ hDD
    refine hstop D W hD ?_ hR hDD
    have := hSp.length_le
    rw [List.length_map] at this
    unfold linesJ
    rw [List.map_map, List.map_map, List.length_map, List.length_map]
    exact Nat.lt_of_lt_of_le hl this
end Go.Proofs.YtlicjpbmlmongaaGreatDoor.C

end
section
/- views.Join: the walk. -/
set_option linter.unusedVariables false
set_option linter.unusedSimpArgs false
namespace Go.Proofs.YtlicjpbmlmongaaGreatDoor.C
open Go.RowKit Go.Shelf Go.BigFrame Go.Proofs Go.Proofs.YtlicjpbmlmongaaGreatDoor.H Go.Proofs.YtlicjpbmlmongaaGreatDoor.S Go.Proofs.YtlicjpbmlmongaaGreatDoorW.PrintWords

attribute [local go_sem] Oper.semAt_some
def ansJ (c : Int) (X Y : List FR) : List ByteArray × Int :=
  if sortedP (X.map (·.1)) = false ∨ sortedP (Y.map (·.1)) = false then ([], 1) else if 65536 < (linesJ c X Y).length then ([], 3) else (linesJ c X Y, 0)
/-- The state while the fields are cut: the boxes lie as they were laid. -/
structure JB (w : World) (c : Int) (V : World) : Prop where
  low : Below w.heap.size w V
  sep : Boxed V w.heap.size 5 (.int .u8 c)
  out : Boxed V (w.heap.size + 1) 24 (.slice none 0 0)
  err : Boxed V (w.heap.size + 2) 27 (.int .i64 0)
theorem JB.below {w : World} {c : Int} {V V' : World} (h : JB w c V) (hb : Below V.heap.size V V') : JB w c V' :=
  ⟨bth h.low hb, (hb.block _ h.sep.lt).trans h.sep, (hb.block _ h.out.lt).trans h.out, (hb.block _ h.err.lt).trans h.err⟩
theorem JB.all {w : World} {c : Int} {V : World} (h : JB w c V) : JB w c V ∧ V.cell? ⟨w.heap.size, 0, none⟩ = some (.int .u8 c) := ⟨h, h.sep.cell⟩
theorem res_cell2 {fn : Func} {p q : Tmp} {t u : TypeId} (h : fn.results = #[.cell p t, .cell q u]) (tmps : Array Value) (w : World) (a b : Addr) (x y : Value)
    (ha : tmps.getD p undef = .pointer (some a)) (hb : tmps.getD q undef = .pointer (some b)) (hx : (loadVar t a).run Tryz.prog w = .ok x w) (hy : (loadVar u b).run Tryz.prog w = .ok y w) : (results fn tmps).run Tryz.prog w = .ok (.tuple #[x, y]) w := by
  have ha' : tmps[p]?.getD undef = .pointer (some a) := by simpa using ha
  have hb' : tmps[q]?.getD undef = .pointer (some b) := by simpa using hb
  simp [results, h, ha', hb', asAddr, hx, hy, Sem.run_bind, Result.andThen]
theorem lv_strs (w : World) (a : Addr) (x : Value) (h : w.cell? a = some x) : (loadVar 24 a).run Tryz.prog w = .ok x w := by
  simp [go_sem, h, loadVar]
theorem lv_err (w : World) (a : Addr) (x : Value) (h : w.cell? a = some x) : (loadVar 27 a).run Tryz.prog w = .ok x w := by
  simp [go_sem, h, loadVar]
theorem join_ret {F : Fence} {n : Nat} {R : Ending → World → Prop} {a : Act} {W : World} {bO bE : Addr} {v e : Value} (h10 : a.tmps.getD 10 undef = .pointer (some bO)) (h11 : a.tmps.getD 11 undef = .pointer (some bE))
    (ho : W.cell? bO = some v) (he : W.cell? bE = some e) (hd : a.defers = []) (hR : R (.returned (.tuple #[v, e])) W) : bodyPostM F n Tryz.prog Tryz.f21 R .ret a W := by
  show LeavesInM F n Tryz.prog _ a.tmps R a.defers .returning W
  rw [hd]
  exact ⟨_, res_cell2 rfl _ _ _ _ _ _ h10 h11 (lv_strs _ _ _ ho) (lv_err _ _ _ he), hR⟩
theorem jb_nil (w : World) (c : Int) (W2 : World) (e : Value) (h : JB w c W2) : TS w (.slice none 0 0) [] ((W2.setCell ⟨w.heap.size + 1, 0, none⟩ (.slice none 0 0)).setCell ⟨w.heap.size + 2, 0, none⟩ e) ∧ ((W2.setCell ⟨w.heap.size + 1, 0, none⟩ (.slice none 0 0)).setCell ⟨w.heap.size + 2, 0, none⟩ e).cell? ⟨w.heap.size + 1, 0, none⟩ = some (.slice none 0 0) ∧ ((W2.setCell ⟨w.heap.size + 1, 0, none⟩ (.slice none 0 0)).setCell ⟨w.heap.size + 2, 0, none⟩ e).cell? ⟨w.heap.size + 2, 0, none⟩ = some e := by
  have o1 := h.out.set (.slice none 0 0)
  have o2 : Boxed ((W2.setCell ⟨w.heap.size + 1, 0, none⟩ (.slice none 0 0)).setCell ⟨w.heap.size + 2, 0, none⟩ e) (w.heap.size + 1) 24 (.slice none 0 0) := (Below.heap_setCell _ _ _ _ (by show w.heap.size + 1 ≠ w.heap.size + 2; omega)).trans o1
  have e1 : Boxed (W2.setCell ⟨w.heap.size + 1, 0, none⟩ (.slice none 0 0)) (w.heap.size + 2) 27 (.int .i64 0) := (Below.heap_setCell _ _ _ _ (by show w.heap.size + 2 ≠ w.heap.size + 1; omega)).trans h.err
  refine ⟨⟨World.ownsRow_nil _ _ _ _, ?_⟩, o2.cell, (e1.set e).cell⟩
  exact (h.low.setCell (p := ⟨w.heap.size + 1, 0, none⟩) (by show w.heap.size ≤ w.heap.size + 1; omega) _).setCell (p := ⟨w.heap.size + 2, 0, none⟩) (by show w.heap.size ≤ w.heap.size + 2; omega) _
theorem join_retD {F : Fence} {n : Nat} {R : Ending → World → Prop} {a : Act} {W : World} {bO bE : Addr} {v e : Value} {D : Nat} (h10 : a.tmps.getD 10 undef = .pointer (some bO)) (h11 : a.tmps.getD 11 undef = .pointer (some bE))
    (ho : W.cell? bO = some v) (he : W.cell? bE = some e) (hD : W.heap[D]? = some (.deferred (some []))) (hd : a.defers = [{ target := .collected D, args := #[] }]) (hR : R (.returned (.tuple #[v, e])) (W.putObj D (.deferred none))) : bodyPostM F n Tryz.prog Tryz.f21 R .ret a W := by
  show LeavesInM F n Tryz.prog _ a.tmps R a.defers .returning W
  rw [hd]
  refine ⟨by simp, .inl ⟨_, _, rfl, run_takeDeferred hD, ?_⟩⟩
  have hk : ∀ {b : Addr} {x : Value}, W.cell? b = some x → (W.putObj D (.deferred none)).cell? b = some x := fun {b x} h => (World.cell?_of_block (World.putObj_heap_other (fun e => by
    obtain ⟨o, ho', hc⟩ := cells_of_cell h
    rw [e, hD] at ho'
    cases ho'
    cases hc))).trans h
  exact ⟨_, res_cell2 rfl _ _ _ _ _ _ h10 h11 (lv_strs _ _ _ (hk ho)) (lv_err _ _ _ (hk he)), hR⟩
theorem _root_.Go.Boxed.set_cell {W : World} {B : Nat} {t : TypeId} {v v' : Value} (h : Boxed W B t v) : (W.setCell ⟨B, 0, none⟩ v').cell? ⟨B, 0, none⟩ = some v' := (h.set v').cell
theorem FOwn.set {base : Nat} {v : Value} {X : List (FR × Value)} {W : World} (h : FOwn base v X W) {b : Nat} {u : Value} (hb : Boxed W b 5 u) (x : Value) : FOwn base v X (W.setCell ⟨b, 0, none⟩ x) :=
  ⟨ownsRow_setCell_other h.row (fun e => hb.not_row (by decide) h.row e.symm) x, fun y hy => ownsRow_setCell_other (h.txs y hy) (fun e => hb.not_row (by decide) (h.txs y hy) e.symm) x⟩
theorem partsTo_size (p : UInt8 → Bool) (s : ByteArray) : ∀ i, ∀ x ∈ (partsTo p s i).1, x.size ≤ s.size
  | 0, x, hx => by cases hx
  | i + 1, x, hx => by
    simp only [partsTo] at hx
    split at hx
    · rcases List.mem_append.1 hx with h | h
      · exact partsTo_size p s i x h
      · rw [List.mem_singleton.1 h, ByteArray.size_extract]; omega
    · exact partsTo_size p s i x hx
theorem fieldsOf_size (s : ByteArray) (c : Int) : ∀ x ∈ fieldsOf s c, x.size ≤ s.size := by
  have h : ∀ p : UInt8 → Bool, ∀ x ∈ partsOf p s, x.size ≤ s.size := fun p x hx => by
    unfold partsOf at hx
    rcases List.mem_append.1 hx with h | h
    · exact partsTo_size p s _ x h
    · rw [List.mem_singleton.1 h, ByteArray.size_extract]; omega
  intro x hx
  unfold fieldsOf at hx
  split at hx
  · exact h _ x (List.mem_filter.1 hx).1
  · exact h _ x hx
theorem fieldP_short (c : Int) (n : Nat) (s : ByteArray) (hs : s.size ≤ 20000) : Short (fieldP c n s) := by
  have h1 := fieldsOf_len s c
  have h2 := fieldsOf_size s c
  unfold fieldP
  split
  · refine ⟨?_, ?_, fun x hx => Nat.le_trans (h2 x (List.mem_of_mem_eraseIdx hx)) hs⟩
    · show ((fieldsOf s c).getD (n - 1) ⟨#[]⟩).size ≤ _
      rw [List.getD_eq_getElem?_getD]
      cases h : (fieldsOf s c)[n - 1]? with
      | none => exact Nat.zero_le _
      | some x => exact Nat.le_trans (h2 x (List.mem_of_getElem? h)) hs
    · show ((fieldsOf s c).eraseIdx (n - 1)).length ≤ _
      have := List.length_eraseIdx_le (fieldsOf s c) (n - 1)
      omega
  · exact ⟨Nat.zero_le _, by show (fieldsOf s c).length ≤ _; omega, fun x hx => Nat.le_trans (h2 x hx) hs⟩
theorem own_weakenF {a b : Nat} {v : Value} {X : List (FR × Value)} {W : World} (h : FOwn b v X W) (hab : a ≤ b) : FOwn a v X W := ⟨own_weaken h.row hab, fun x hx => own_weaken (h.txs x hx) hab⟩
set_option maxHeartbeats 4000000 in
set_option maxRecDepth 100000 in
theorem join_in (F : Fence) (n : Nat) (hF : Fence.wide = F) (hn : 4 ≤ n) (A1 A2 : Option Addr) (p1 p2 : Nat) (l1 l2 : List ByteArray) (f g : Nat) (c : Int) (hf1 : 1 ≤ f) (hf2 : f ≤ 1000) (hg1 : 1 ≤ g) (hg2 : g ≤ 1000) (hc : ¬ c = 10) (hz0 : 0 ≤ c) (hz1 : c < 256) (w : World)
    (hr1 : Kd.C Kd.string w A1 l1.length l1) (hr2 : Kd.C Kd.string w A2 l2.length l2) (k1 : l1.length ≤ p1) (k2 : l2.length ≤ p2) (b1 : l1.length ≤ 300) (b2 : l2.length ≤ 300) (s1 : ∀ s ∈ l1, s.size ≤ 20000) (s2 : ∀ s ∈ l2, s.size ≤ 20000) :
    CallsIn F n Tryz.prog 21 #[.slice A1 l1.length p1, .slice A2 l2.length p2, .int .i64 (f : Int), .int .i64 (g : Int), .int .u8 c] w fun e w' => ∃ v, e = .returned (.tuple #[v, .int .i64 (ansJ c (l1.map (fieldP c f)) (l2.map (fieldP c g))).2]) ∧ TS w v (ansJ c (l1.map (fieldP c f)) (l2.map (fieldP c g))).1 w' := by
  have h1 : 1 ≤ n := by omega
  have hro : F.round = none := by rw [← hF]; rfl
  have hfn : ∀ k, F.fn k := fun k => by rw [← hF]; trivial
  have hcF : F.fn 21 := hfn _
  have hcP : F.fn 81 := hfn _
  have hcP1 : F.fn 127 := hfn _
  have hcS : F.fn 80 := hfn _
  have HSO := Lib.hid (show ∀ (m : Nat) (base : Nat) (v : Value) (X : List (FR × Value)) (W : World), FOwn base v X W → X.length ≤ 1000000 → CallsIn F m Tryz.prog 80 #[v, .func (.func 78) #[] #[]] W fun e w' => e = .returned (.bool (sortedP (X.map (·.1.1)))) ∧ Below W.heap.size W w' from fun m base v X W a b => by rw [← hF]; exact callsIn_wide.2 (sorted_calls base v X W a b))
  have HF := Lib.hid hF
  have HR := Lib.hid (And.intro hr1 (And.intro hr2 (And.intro s1 s2)))
  clear hfn hF hr1 hr2 s1 s2
  refine callsIn_of_wp_marks Tryz.func21 rfl hcF ?_ hro
  simp only [Tryz.ntmps21, List.size_toArray, List.length_cons, List.length_nil, Nat.reduceAdd, Nat.reduceSub, Array.replicate_succ, Array.replicate_zero, List.push_toArray, List.append_toArray, List.nil_append, List.cons_append]
  have i1 : decide (min (f : Int) (g : Int) < 1) = false := decide_eq_false (by omega)
  have i2 : decide ((1000 : Int) < max (f : Int) (g : Int)) = false := decide_eq_false (by omega)
  have i3 : (c == 10) = false := by simpa using hc
  have HC := Lib.hid hc
  clear hc
  gi_wp2
  obtain ⟨W1, hW1⟩ : ∃ W1, ((w.alloc (.cells #[.int .u8 c] 5)).alloc (.cells #[.slice none 0 0] 24)).alloc (.cells #[.int .i64 0] 27) = W1 := ⟨_, rfl⟩
  have jb1 : JB w c W1 := by
    rw [← hW1]
    refine ⟨bal (bal (bal (Below.refl _ _) _) _) _, (((Boxed.new w _ _).alloc _).alloc _), ?_, ?_⟩
    · have := Boxed.new (w.alloc (.cells #[.int .u8 c] 5)) 24 (.slice none 0 0)
      rw [World.size_alloc] at this
      exact this.alloc _
    · have := Boxed.new ((w.alloc (.cells #[.int .u8 c] 5)).alloc (.cells #[.slice none 0 0] 24)) 27 (.int .i64 0)
      rw [World.size_alloc, World.size_alloc] at this
      exact this
  rw [hW1]
  have HJ1 := Lib.hid jb1
  clear hW1 jb1
  have hFo := HF.out
  rw [← hFo]
  refine wpIn_wide.2 ?_
  clear hFo
  have HV1 := Lib.hid (show ∀ V, JB w c V → Calls Tryz.prog 77 #[.slice A1 l1.length p1, .int .i64 (f : Int), .int .u8 c] V fun e w' => ∃ v X, e = .returned v ∧ (JB w c w' ∧ w'.cell? ⟨w.heap.size, 0, none⟩ = some (.int .u8 c)) ∧ Hid (AsF c f l1 X ∧ FOwn w.heap.size v X w') from fun V h => (vfields_calls A1 p1 l1 f hf1 hf2 c V (Kd.C_below HR.out.1 h.low) k1 (by omega) (fun s hs => Nat.le_trans (HR.out.2.2.1 s hs) (by decide))).mono fun e w' ⟨v, X, e1, e2, e3⟩ => ⟨v, X, e1, (h.below e3.low).all, Lib.hid ⟨e2, own_weakenF e3.own h.low.size⟩⟩)
  have HV2 := Lib.hid (show ∀ V, JB w c V → Calls Tryz.prog 77 #[.slice A2 l2.length p2, .int .i64 (g : Int), .int .u8 c] V fun e w' => ∃ v X, e = .returned v ∧ (JB w c w' ∧ w'.cell? ⟨w.heap.size, 0, none⟩ = some (.int .u8 c)) ∧ Hid (AsF c g l2 X ∧ FOwn w.heap.size v X w' ∧ Below V.heap.size V w') from fun V h => (vfields_calls A2 p2 l2 g hg1 hg2 c V (Kd.C_below HR.out.2.1 h.low) k2 (by omega) (fun s hs => Nat.le_trans (HR.out.2.2.2 s hs) (by decide))).mono fun e w' ⟨v, X, e1, e2, e3⟩ => ⟨v, X, e1, (h.below e3.low).all, Lib.hid ⟨e2, own_weakenF e3.own h.low.size, e3.low⟩⟩)
  go_region_held3 (fun V => JB w c V ∧ V.cell? ⟨w.heap.size, 0, none⟩ = some (.int .u8 c)) (with_reducible first | assumption | exact JB.all (JB.below HJ1.out (bdr (Below.refl _ _))) | exact JB.all HJ1.out) ((first
    | (go_at_call 77; (first | with_reducible refine (HV1.out _ (by first | exact (show JB w c _ ∧ _ from by assumption).1 | exact JB.below HJ1.out (bdr (Below.refl _ _)) | exact HJ1.out)).mono ?_ | with_reducible refine (HV2.out _ (by first | exact (show JB w c _ ∧ _ from by assumption).1)).mono ?_); rintro e w' ⟨v, X, rfl, hbq, hfx⟩)))
  rename_i V1 v1 X1 hb1 hx1 _
  have hx2 := hx1.out.2.below hfx.out.2.2
  have hX1 : X1.length = l1.length := by have := congrArg List.length hx1.out.1; simpa using this
  have hX2 : X.length = l2.length := by have := congrArg List.length hfx.out.1; simpa using this
  have HXX := Lib.hid (And.intro hx1.out.1 (And.intro hfx.out.1 (And.intro hX1 hX2)))
  have HOW := Lib.hid (And.intro hx2 (And.intro hfx.out.2.1 hbq.1))
  clear hX1 hX2 hb1 hx1 hbq HV1 HV2 HJ1
  obtain ⟨Ax, cx, rfl, hcx1, hcx2, -⟩ := hx2.reads
  obtain ⟨Ay, cy, rfl, hcy1, hcy2, -⟩ := hfx.out.2.1.reads
  have HCXY := Lib.hid (And.intro hcx1 (And.intro hcx2 (And.intro hcy1 hcy2)))
  clear hx2 hfx hcx1 hcx2 hcy1 hcy2
  have hmap : ∀ (l : List (FR × Value)), l.map (·.1.1) = (l.map (·.1)).map (·.1) := fun l => by rw [List.map_map]; rfl
  have hD1 : (l1.map (fieldP c f)).map (·.1) = X1.map (·.1.1) := by rw [hmap, ← HXX.out.1]
  have hD2 : (l2.map (fieldP c g)).map (·.1) = X.map (·.1.1) := by rw [hmap, ← HXX.out.2.1]
  have HBAD := Lib.hid (show sortedP (X1.map (·.1.1)) = false ∨ sortedP (X.map (·.1.1)) = false → ansJ c (l1.map (fieldP c f)) (l2.map (fieldP c g)) = ([], 1) from fun h => by unfold ansJ; rw [hD1, hD2, if_pos h])
  have HGOOD := Lib.hid (show sortedP (X1.map (·.1.1)) = true → sortedP (X.map (·.1.1)) = true → ansJ c (l1.map (fieldP c f)) (l2.map (fieldP c g)) = (if 65536 < (linesJ c (l1.map (fieldP c f)) (l2.map (fieldP c g))).length then ([], 3) else (linesJ c (l1.map (fieldP c f)) (l2.map (fieldP c g)), 0)) from fun h1 h2 => by unfold ansJ; rw [hD1, hD2, if_neg (by rw [h1, h2]; simp)])
  have HDD := Lib.hid (And.intro hD1 hD2)
  have HNIL := Lib.hid (fun (W2 : World) (e : Value) (h : JB w c W2) => jb_nil w c W2 e h)
  clear hmap hD1 hD2
  cases hS1 : sortedP (X1.map (·.1.1)) with
  | false =>
    gi_wp2_with (gi_at_call 80; refine (HSO.out _ w.heap.size _ X1 _ HOW.out.1 (by have := HXX.out.2.2.1; omega)).mono ?_; rintro e W2 ⟨rfl, hb2⟩; rw [hS1]; have H2 := Lib.hid (HOW.out.2.2.below hb2); clear hb2; have co := H2.out.out.cell; have ce := H2.out.err.cell; have fo := H2.out.out.frozen; have fe := H2.out.err.frozen)
    obtain ⟨q1, q2, q3⟩ := HNIL.out W2 (.int .i64 1) H2.out
    exact join_ret (bO := ⟨w.heap.size + 1, 0, none⟩) (bE := ⟨w.heap.size + 2, 0, none⟩) rfl rfl q2 q3 rfl (by rw [HBAD.out (.inl hS1)]; exact ⟨_, rfl, q1⟩)
  | true =>
    cases hS2 : sortedP (X.map (·.1.1)) with
    | false =>
      gi_wp2_with ((gi_at_call 80; first | (with_reducible refine (HSO.out _ w.heap.size _ X1 _ HOW.out.1 (by have := HXX.out.2.2.1; omega)).mono ?_; rintro e W2 ⟨rfl, hb2⟩; rw [hS1]; have HB2 := Lib.hid hb2; clear hb2) | (with_reducible refine (HSO.out _ w.heap.size _ X _ (HOW.out.2.1.below HB2.out) (by have := HXX.out.2.2.2; omega)).mono ?_; rintro e W3 ⟨rfl, hb3⟩; rw [hS2]; have H2 := Lib.hid ((HOW.out.2.2.below HB2.out).below hb3); clear hb3; have co := H2.out.out.cell; have ce := H2.out.err.cell; have fo := H2.out.out.frozen; have fe := H2.out.err.frozen)))
      obtain ⟨q1, q2, q3⟩ := HNIL.out W3 (.int .i64 1) H2.out
      exact join_ret (bO := ⟨w.heap.size + 1, 0, none⟩) (bE := ⟨w.heap.size + 2, 0, none⟩) rfl rfl q2 q3 rfl (by rw [HBAD.out (.inr hS2)]; exact ⟨_, rfl, q1⟩)
    | true =>
      have hz : (c == 0) = decide (c = 0) := by by_cases h : c = 0 <;> simp [h]
      by_cases hc0 : c = 0
      all_goals
        first | rw [decide_eq_true hc0] at hz | rw [decide_eq_false hc0] at hz
        have HC0 := Lib.hid hc0
        clear hc0
        gi_wp2_with ((first | (gi_at_call 80; first | (with_reducible refine (HSO.out _ w.heap.size _ X1 _ HOW.out.1 (by have := HXX.out.2.2.1; omega)).mono ?_; rintro e W2 ⟨rfl, hb2⟩; rw [hS1]; have HB2 := Lib.hid hb2; clear hb2) | (with_reducible refine (HSO.out _ w.heap.size _ X _ (HOW.out.2.1.below HB2.out) (by have := HXX.out.2.2.2; omega)).mono ?_; rintro e W3 ⟨rfl, hb3⟩; rw [hS2]; have HB3 := Lib.hid (bth HB2.out hb3); have H2 := Lib.hid ((HOW.out.2.2.below HB2.out).below hb3); clear hb3; have cs := H2.out.sep.cell; have fs := H2.out.sep.frozen)) | (gi_at_call 81; refine (pairs_in F _ hcP hro _ _ _ _ _ _ _).mono ?_; rintro e W5 ⟨rfl, rfl⟩)))
      have j4 : JB w (sepOf c) (W3.setCell ⟨w.heap.size, 0, none⟩ (.int .u8 32)) := by
        have e : sepOf c = 32 := by unfold sepOf; rw [if_pos HC0.out]
        rw [e]
        exact ⟨H2.out.low.setCell (p := ⟨w.heap.size, 0, none⟩) (Nat.le_refl _) _, H2.out.sep.set _, (Below.heap_setCell _ _ _ _ (by show w.heap.size + 1 ≠ w.heap.size; omega)).trans H2.out.out, (Below.heap_setCell _ _ _ _ (by show w.heap.size + 2 ≠ w.heap.size; omega)).trans H2.out.err⟩
      have f1 := (HOW.out.1.below HB3.out).set H2.out.sep (.int .u8 32)
      have f2 := (HOW.out.2.1.below HB3.out).set H2.out.sep (.int .u8 32)
      have hsz : (W3.setCell ⟨w.heap.size, 0, none⟩ (.int .u8 32)).heap.size = W3.heap.size := by simp [World.setCell]
      generalize W3.setCell ⟨w.heap.size, 0, none⟩ (.int .u8 32) = W4 at j4 f1 f2 hsz ⊢
      rotate_left
      have j4 : JB w (sepOf c) W3 := by
        have e : sepOf c = c := by unfold sepOf; rw [if_neg HC0.out]
        rw [e]
        exact H2.out
      have f1 := HOW.out.1.below HB3.out
      have f2 := HOW.out.2.1.below HB3.out
      obtain ⟨W4, hW4⟩ : ∃ W4, W3 = W4 := ⟨_, rfl⟩
      have hsz : W4.heap.size = W3.heap.size := by rw [hW4]
      rw [hW4] at j4 f1 f2
      rw [hW4]
      all_goals
        have z5 : ((W4.alloc (.cells #[.slice Ax X1.length cx] 79)).alloc (.cells #[.slice Ay X.length cy] 79)).heap.size = W4.heap.size + 2 := by simp
        have b5 : Below W4.heap.size W4 ((W4.alloc (.cells #[.slice Ax X1.length cx] 79)).alloc (.cells #[.slice Ay X.length cy] 79)) := bal (bal (Below.refl _ _) _) _
        have bx := (Boxed.new W4 79 (.slice Ax X1.length cx)).alloc (.cells #[.slice Ay X.length cy] 79)
        have by' := Boxed.new (W4.alloc (.cells #[.slice Ax X1.length cx] 79)) 79 (.slice Ay X.length cy)
        rw [World.size_alloc] at by'
        generalize (W4.alloc (.cells #[.slice Ax X1.length cx] 79)).alloc (.cells #[.slice Ay X.length cy] 79) = W5 at z5 b5 bx by' ⊢
        have j5 := j4.below b5
        have m1 : X1.map (·.1) = l1.map (fieldP c f) := HXX.out.1
        have m2 : X.map (·.1) = l2.map (fieldP c g) := HXX.out.2.1
        have hs1 : ∀ x ∈ X1, Short x.1 := fun x hx => by
          have : x.1 ∈ l1.map (fieldP c f) := by rw [← m1]; exact List.mem_map.2 ⟨x, hx, rfl⟩
          obtain ⟨s, hs, e⟩ := List.mem_map.1 this
          rw [← e]
          exact fieldP_short c f s (HR.out.2.2.1 s hs)
        have hs2 : ∀ x ∈ X, Short x.1 := fun x hx => by
          have : x.1 ∈ l2.map (fieldP c g) := by rw [← m2]; exact List.mem_map.2 ⟨x, hx, rfl⟩
          obtain ⟨s, hs, e⟩ := List.mem_map.1 this
          rw [← e]
          exact fieldP_short c g s (HR.out.2.2.2 s hs)
        have hg := HGOOD.out hS1 hS2
        rw [← m1, ← m2] at hg
        refine join_range F n HF.out hn w W5 c hz0 hz1 (w.heap.size) (w.heap.size + 1) (w.heap.size + 1 + 1) _ _ Ax Ay cx cy X1 X _ _ _ _ _ _ _ _ _ _ _ _ _ _ _ _ _ _ _ _ _ _ _ _ _ _ _ _ _ _ _ _ _ _ _ _ _ _ _ _ _ _ _ _ _ _ _ _ _ _ _ _ _ _ _ _ _ _ _ _ _ _ _ _ _ _ _ _ _ _ _ _ _ (by kernel_rfl) j5.sep j5.out j5.err (by first | exact bx | (rw [← hsz]; exact bx)) (by first | exact by' | (rw [← hsz]; exact by')) (f1.below b5) (f2.below b5) (by have := HXX.out.2.2.1; omega) (by have := HXX.out.2.2.2; omega) hs1 hs2 j5.low (by omega) (by omega) (by omega) ?hdone ?hstop
        case hdone =>
          rintro D W hD hl hI hDD
          rw [if_neg (by omega)] at hg
          obtain ⟨v, hb, ht⟩ := hI.out
          obtain ⟨Av, cv, rfl, _, _⟩ := ht.reads
          have o1 : Boxed (W.setCell ⟨w.heap.size + 1, 0, none⟩ (.slice Av (linesJ c (X1.map (·.1)) (X.map (·.1))).length cv)) (w.heap.size + 1 + 1) 27 (.int .i64 0) := (Below.heap_setCell _ _ _ _ (by show w.heap.size + 1 + 1 ≠ w.heap.size + 1; omega)).trans hI.err
          have o2 : Boxed ((W.setCell ⟨w.heap.size + 1, 0, none⟩ (.slice Av (linesJ c (X1.map (·.1)) (X.map (·.1))).length cv)).setCell ⟨w.heap.size + 1 + 1, 0, none⟩ (.int .i64 0)) (w.heap.size + 1) 24 (.slice Av (linesJ c (X1.map (·.1)) (X.map (·.1))).length cv) := (Below.heap_setCell _ _ _ _ (by show w.heap.size + 1 ≠ w.heap.size + 1 + 1; omega)).trans (hb.set _)
          have o3 : ((W.setCell ⟨w.heap.size + 1, 0, none⟩ (.slice Av (linesJ c (X1.map (·.1)) (X.map (·.1))).length cv)).setCell ⟨w.heap.size + 1 + 1, 0, none⟩ (.int .i64 0)).heap[D]? = some (.deferred (some [])) := (Below.heap_setCell _ _ _ _ (by show D ≠ w.heap.size + 1 + 1; have := j5.err.lt; omega)).trans ((Below.heap_setCell _ _ _ _ (by show D ≠ w.heap.size + 1; have := j5.err.lt; omega)).trans hDD)
          have o4 : Txs W5.heap.size (.slice Av (linesJ c (X1.map (·.1)) (X.map (·.1))).length cv) (linesJ c (X1.map (·.1)) (X.map (·.1))) ((W.setCell ⟨w.heap.size + 1, 0, none⟩ (.slice Av (linesJ c (X1.map (·.1)) (X.map (·.1))).length cv)).setCell ⟨w.heap.size + 1 + 1, 0, none⟩ (.int .i64 0)) := ownsRow_setCell_below (a := ⟨w.heap.size + 1 + 1, 0, none⟩) (ownsRow_setCell_below (a := ⟨w.heap.size + 1, 0, none⟩) ht (by show w.heap.size + 1 < W5.heap.size; exact j5.out.lt) _) (by show w.heap.size + 1 + 1 < W5.heap.size; exact j5.err.lt) _
          have o5 : Below w.heap.size w ((W.setCell ⟨w.heap.size + 1, 0, none⟩ (.slice Av (linesJ c (X1.map (·.1)) (X.map (·.1))).length cv)).setCell ⟨w.heap.size + 1 + 1, 0, none⟩ (.int .i64 0)) := (hI.low.setCell (p := ⟨w.heap.size + 1, 0, none⟩) (by show w.heap.size ≤ w.heap.size + 1; omega) _).setCell (p := ⟨w.heap.size + 1 + 1, 0, none⟩) (by show w.heap.size ≤ w.heap.size + 1 + 1; omega) _
          have hpost : (∃ v, Ending.returned (.tuple #[.slice Av (linesJ c (X1.map (·.1)) (X.map (·.1))).length cv, .int .i64 0]) = .returned (.tuple #[v, .int .i64 (ansJ c (l1.map (fieldP c f)) (l2.map (fieldP c g))).2]) ∧ TS w v (ansJ c (l1.map (fieldP c f)) (l2.map (fieldP c g))).1 (((W.setCell ⟨w.heap.size + 1, 0, none⟩ (.slice Av (linesJ c (X1.map (·.1)) (X.map (·.1))).length cv)).setCell ⟨w.heap.size + 1 + 1, 0, none⟩ (.int .i64 0)).putObj D (.deferred none))) := by
            rw [← m1, ← m2, hg]
            refine ⟨_, rfl, ⟨own_weaken (ownsRow_putObj o4 _ o3 rfl) j5.low.size, o5.grown (grownBy_putObj' _ _ _) o5.size (fun k e => by injection e with e; have := j5.low.size; omega)⟩⟩
          have hret := fun (a : Act) h10 h11 hd => join_retD (F := F) (n := n) (R := fun e w' => ∃ v, e = .returned (.tuple #[v, .int .i64 (ansJ c (l1.map (fieldP c f)) (l2.map (fieldP c g))).2]) ∧ TS w v (ansJ c (l1.map (fieldP c f)) (l2.map (fieldP c g))).1 w') (a := a) (bO := ⟨w.heap.size + 1, 0, none⟩) (bE := ⟨w.heap.size + 1 + 1, 0, none⟩) (D := D) h10 h11 o2.cell o1.set_cell o3 hd hpost
          have HRET := Lib.hid hret
          have co := hb.cell
          have fo := hb.frozen
          have ce := hI.err.cell
          have fe := hI.err.frozen
          clear hret hpost o1 o2 o3 o4 o5 hg hs1 hs2 m1 m2 j5 bx by' z5 b5
          gi_wp2
          exact HRET.out _ rfl rfl rfl
        case hstop =>
          rintro D W hD hl hR hDD
          rw [if_pos hl] at hg
          have hpost : (∃ v, Ending.returned (.tuple #[.slice none 0 0, .int .i64 3]) = .returned (.tuple #[v, .int .i64 (ansJ c (l1.map (fieldP c f)) (l2.map (fieldP c g))).2]) ∧ TS w v (ansJ c (l1.map (fieldP c f)) (l2.map (fieldP c g))).1 (W.putObj D (.deferred none))) := by
            rw [← m1, ← m2, hg]
            exact ⟨_, rfl, ⟨World.ownsRow_nil _ _ _ _, hR.low.grown (grownBy_putObj' _ _ _) hR.low.size (fun k e => by injection e with e; have := j5.low.size; omega)⟩⟩
          have hret := fun (a : Act) h10 h11 hd => join_retD (F := F) (n := n) (R := fun e w' => ∃ v, e = .returned (.tuple #[v, .int .i64 (ansJ c (l1.map (fieldP c f)) (l2.map (fieldP c g))).2]) ∧ TS w v (ansJ c (l1.map (fieldP c f)) (l2.map (fieldP c g))).1 w') (a := a) (bO := ⟨w.heap.size + 1, 0, none⟩) (bE := ⟨w.heap.size + 1 + 1, 0, none⟩) (D := D) h10 h11 hR.out.cell hR.err.cell hDD hd hpost
          have HRET := Lib.hid hret
          clear hret hpost hg hs1 hs2 m1 m2 j5 bx by' z5 b5
          gi_wp2
          exact HRET.out _ rfl rfl rfl
set_option maxHeartbeats 1000000 in
set_option maxRecDepth 100000 in
theorem join_bad (A1 A2 : Option Addr) (n1 p1 n2 p2 : Nat) (f g c : Int) (hb : min f g < 1 ∨ 1000 < max f g ∨ c = 10) (w : World) :
    Calls Tryz.prog 21 #[.slice A1 n1 p1, .slice A2 n2 p2, .int .i64 f, .int .i64 g, .int .u8 c] w fun e w' => e = .returned (.tuple #[.slice none 0 0, .int .i64 1]) ∧ Below w.heap.size w w' := by
  have hro : Fence.wide.round = none := rfl
  refine callsIn_wide (n := 4) |>.1 ?_
  refine callsIn_of_wp_marks Tryz.func21 rfl trivial ?_ hro
  simp only [Tryz.ntmps21, List.size_toArray, List.length_cons, List.length_nil, Nat.reduceAdd, Nat.reduceSub, Array.replicate_succ, Array.replicate_zero, List.push_toArray, List.append_toArray, List.nil_append, List.cons_append]
  have hend : ∀ a : Act, a.tmps.getD 10 undef = .pointer (some ⟨w.heap.size + 1, 0, none⟩) → a.tmps.getD 11 undef = .pointer (some ⟨w.heap.size + 1 + 1, 0, none⟩) → a.defers = [] → bodyPostM Fence.wide 4 Tryz.prog Tryz.f21 (fun e w' => e = .returned (.tuple #[.slice none 0 0, .int .i64 1]) ∧ Below w.heap.size w w') .ret a (((w.alloc (.cells #[.int .u8 c] 5)).alloc (.cells #[.slice none 0 0] 24)).alloc (.cells #[.int .i64 1] 27)) := fun a h10 h11 hd => by
    have o1 := (Boxed.new (w.alloc (.cells #[.int .u8 c] 5)) 24 (.slice none 0 0)).alloc (.cells #[.int .i64 1] 27)
    have o2 := Boxed.new ((w.alloc (.cells #[.int .u8 c] 5)).alloc (.cells #[.slice none 0 0] 24)) 27 (.int .i64 1)
    rw [World.size_alloc] at o1
    rw [World.size_alloc, World.size_alloc] at o2
    exact join_ret h10 h11 o1.cell o2.cell hd ⟨rfl, bal (bal (bal (Below.refl _ _) _) _) _⟩
  have HE := Lib.hid hend
  clear hend
  by_cases h1 : min f g < 1
  · have d1 : decide (min f g < 1) = true := decide_eq_true h1
    clear hb h1
    gi_wp2
    all_goals exact HE.out _ rfl rfl rfl
  · have d1 : decide (min f g < 1) = false := decide_eq_false h1
    by_cases h2 : 1000 < max f g
    · have d2 : decide (1000 < max f g) = true := decide_eq_true h2
      clear hb h1 h2
      gi_wp2
      all_goals exact HE.out _ rfl rfl rfl
    · have d2 : decide (1000 < max f g) = false := decide_eq_false h2
      have d3 : (c == 10) = true := by
        have : c = 10 := by omega
        simp [this]
      clear hb h1 h2
      gi_wp2
      all_goals exact HE.out _ rfl rfl rfl
/-- What views.Join tells. -/
def joinR (l1 l2 : List ByteArray) (f g c : Int) : List ByteArray × Int :=
  if min f g < 1 ∨ 1000 < max f g ∨ c = 10 then ([], 1) else ansJ c (l1.map (fieldP c f.toNat)) (l2.map (fieldP c g.toNat))
theorem join_calls (A1 A2 : Option Addr) (p1 p2 : Nat) (l1 l2 : List ByteArray) (f g c : Int) (hz0 : 0 ≤ c) (hz1 : c < 256) (w : World)
    (hr1 : Kd.C Kd.string w A1 l1.length l1) (hr2 : Kd.C Kd.string w A2 l2.length l2) (k1 : l1.length ≤ p1) (k2 : l2.length ≤ p2) (b1 : l1.length ≤ 300) (b2 : l2.length ≤ 300) (s1 : ∀ s ∈ l1, s.size ≤ 20000) (s2 : ∀ s ∈ l2, s.size ≤ 20000) :
    Calls Tryz.prog 21 #[.slice A1 l1.length p1, .slice A2 l2.length p2, .int .i64 f, .int .i64 g, .int .u8 c] w fun e w' => ∃ v, e = .returned (.tuple #[v, .int .i64 (joinR l1 l2 f g c).2]) ∧ TS w v (joinR l1 l2 f g c).1 w' := by
  by_cases hb : min f g < 1 ∨ 1000 < max f g ∨ c = 10
  · refine (join_bad A1 A2 _ p1 _ p2 f g c hb w).mono ?_
    rintro e w' ⟨rfl, hl⟩
    unfold joinR
    rw [if_pos hb]
    exact ⟨_, rfl, ⟨World.ownsRow_nil _ _ _ _, hl⟩⟩
  · unfold joinR
    rw [if_neg hb]
    obtain ⟨f', rfl⟩ : ∃ f' : Nat, f = (f' : Int) := ⟨f.toNat, by omega⟩
    obtain ⟨g', rfl⟩ : ∃ g' : Nat, g = (g' : Int) := ⟨g.toNat, by omega⟩
    exact callsIn_wide.1 (join_in Fence.wide 4 rfl (by decide) A1 A2 p1 p2 l1 l2 f' g' c (by omega) (by omega) (by omega) (by omega) (by omega) hz0 hz1 w hr1 hr2 k1 k2 b1 b2 s1 s2)
end Go.Proofs.YtlicjpbmlmongaaGreatDoor.C

end
