/- Written by merge.py out of Book1, Book2, Book3, Book4, Book5. -/
import Derived.Test.YtlicjpbmlmongaaDoorHelp
import Derived.Laws.OwnMore
import Derived.Test.YtlicjpbmlmongaaDoorShelf
import Derived.WalkLawsBesides
import Derived.WalkSpells
import Derived.RangeFuncBox
import Derived.Deep.RegionLaw
import Derived.Deep.RegionHeld3
import Derived.Outline
import Derived.Deep.QuietTactic
import Derived.BigQuiet
section
/- Lists of texts that the call itself made, each in a block of its own: what is written into one, and put behind one, leaves the others. -/
set_option linter.unusedVariables false
set_option linter.unusedSimpArgs false
namespace Go.Proofs.YtlicjpbmlmongaaDoor.H
open Go.RowKit Go.Proofs.YtlicjpbmlmongaaDoorW.PrintWords

/-- A shorter slice of the same row. -/
theorem own_short {w : World} {base e g cap m : Nat} {xs : List Value} (h : w.ownsRow base e 1 (.slice (some ⟨g, 0, none⟩) m cap) m xs) (n : Nat) (hn : n ≤ m) :
    w.ownsRow base e 1 (.slice (some ⟨g, 0, none⟩) n cap) n (xs.take n) := by
  have hl := h.1
  rcases h.2 with ⟨h', _⟩ | ⟨g', cap', cur, h', hb, hg, hnc, hcm, hcs, htake⟩
  · cases h'
  · simp only [Value.slice.injEq, Option.some.injEq, Addr.mk.injEq, and_true, true_and] at h'
    obtain ⟨rfl, rfl⟩ := h'
    refine ⟨by rw [List.length_take]; omega, .inr ⟨g, cap, cur, rfl, hb, hg, by omega, hcm, hcs, ?_⟩⟩
    rw [← htake, List.take_take]
    congr 1
    omega
/-- Two rows in one block have one capacity. -/
theorem own_cap {w : World} {base base' e g cap cap' n m : Nat} {xs ys : List Value} (h : w.ownsRow base e 1 (.slice (some ⟨g, 0, none⟩) n cap) n xs) (k : w.ownsRow base' e 1 (.slice (some ⟨g, 0, none⟩) m cap') m ys) : cap = cap' := by
  rcases h.2 with ⟨h', _⟩ | ⟨g1, cap1, cur1, h1, _, hg1, _, _, hc1, _⟩
  · cases h'
  rcases k.2 with ⟨h', _⟩ | ⟨g2, cap2, cur2, h2, _, hg2, _, _, hc2, _⟩
  · cases h'
  simp only [Value.slice.injEq, Option.some.injEq, Addr.mk.injEq, and_true, true_and] at h1 h2
  obtain ⟨rfl, rfl⟩ := h1
  obtain ⟨rfl, rfl⟩ := h2
  rw [hg1] at hg2
  injection hg2 with hg2
  injection hg2 with hg2
  subst hg2
  omega

/-- Where an append of one element has put the row. -/
def AppCase (w w' : World) (v : Value) (n g cap : Nat) : Prop := (v = .slice (some ⟨g, 0, none⟩) n cap ∧ w.grownBy w' (some g)) ∨ (g = w.heap.size ∧ Below w.heap.size w w')
section
variable {P : Program} (w : World)
/-- append of one element onto a row of the call's own: in place, or in a new block, and then the old one lies as it lay. -/
theorem run_append_two (base : Nat) (t ty e : TypeId) (i : TypeInfo) (z : Value) (bytes : Nat) (ht : P.underlying t = some (.slice e)) (hi : P.info? e = some i) (hz : i.zero = some z)
    (hsize : i.size = 1) (hby : i.bytes = bytes) (hzs : z.cells.size = 1)
    (v : Value) (n : Nat) (xs : List Value) (hown : w.ownsRow base e 1 v n xs)
    (a : Addr) (c : Nat) (x : Value) (hnews : w.cell? a = some x) (h1 : x.oneCell' = true)
    (h63 : n + 1 ≤ maxLen) (hbytes : (n + 1) * bytes ≤ 140737488355328) (hbase : base ≤ w.heap.size) :
    ∃ g cap w', (Builtin.append_ #[t, t] ty #[v, .slice (some a) 1 c]).run P w = .ok (.slice (some ⟨g, 0, none⟩) (n + 1) cap) w' ∧ w'.ownsRow base e 1 (.slice (some ⟨g, 0, none⟩) (n + 1) cap) (n + 1) (xs ++ [x]) ∧
      ((v = .slice (some ⟨g, 0, none⟩) n cap ∧ w.grownBy w' (some g)) ∨ (g = w.heap.size ∧ Below w.heap.size w w')) := by
  have hl : ([x] : List Value).length = 1 * 1 := rfl
  have hn2 : ∀ j u, ([x] : List Value)[j]? = some u → w.cell? (a.add j) = some u := by
    intro j u hj
    match j, hj with
    | 0, hj => simp at hj; subst hj; rw [show a.add 0 = a by unfold Addr.add; split <;> simp_all]; exact hnews
  have h1' : ∀ u ∈ ([x] : List Value), u.oneCell' = true := fun u hu => by simp at hu; subst hu; exact h1
  rcases hown.2 with ⟨rfl, rfl⟩ | ⟨g, cap, cur, rfl, hbg, hg, hnc, hcm, hcs, htake⟩
  · obtain ⟨g, cap, w', hr, h2, h3, h4, _⟩ := run_append_lies (P := P) w t ty base e i z 1 bytes ht hi hz hsize hby hzs (by omega) _ 0 xs hown a 1 c [x] hl hn2 h1' (by omega) h63 hbytes hbase w.heap.size rfl
    refine ⟨g, cap, w', hr, h2, .inr ⟨?_, ?_⟩⟩
    · rcases h4 with h4 | h4
      · simp [Value.ownBlock] at h4
      · exact h4
    · exact ⟨h3.os, h3.tape, h3.output, h3.size, fun k hk => h3.block k hk (by simp [Value.ownBlock])⟩
  · by_cases hroom : n + 1 ≤ cap
    · obtain ⟨w', hr, h2, h3⟩ := run_append_fits (P := P) w base t ty e i 1 ht hi hsize g n cap xs hown a 1 c [x] hl hn2 h1' hroom
      exact ⟨g, cap, w', hr, h2, .inl ⟨rfl, h3⟩⟩
    · have hsmall : n + 1 ≤ 9223372036854775807 := by simp only [maxLen] at h63; omega
      have holds : ∀ j u, xs[j]? = some u → w.cell? ((⟨g, 0, none⟩ : Addr).add j) = some u := hown.cells (g := g) rfl
      subst hby
      have hr := run_append_grow (P := P) w t ty e i z ht hi hz ⟨g, 0, none⟩ n cap xs (by rw [hsize]; exact hown.1) holds a 1 c [x] (by rw [hsize]; rfl) hn2 (by omega) (by omega) (growslice_fits (by omega) hbytes)
      have hge := grownCap_ge w (n + 1) cap e
      have hcm2 : grownCap w (n + 1) cap e ≤ maxLen := grownCap_le_maxLen w (n + 1) cap e h63
      have hlen : (xs ++ [x]).length = (n + 1) * 1 := by rw [List.length_append, hown.1]; simp
      refine ⟨_, _, _, hr, ⟨hlen, .inr ⟨w.heap.size, _, _, rfl, hbase, heap_alloc_new w.drew _, hge, hcm2, ?_, ?_⟩⟩, .inr ⟨rfl, ?_⟩⟩
      · simp only [Array.size_append, List.size_toArray, size_zeroCells, hzs, hown.1, List.length_cons, List.length_nil]
        omega
      · simp only [Array.toList_append, List.append_assoc]
        rw [← List.append_assoc, ← hlen]
        exact List.take_left
      · exact bal (bdr (Below.refl _ _)) _

theorem wpList_append_two {ops : Array Oper} {rest : List Oper} {o : Oper} {a : Act} {Q : Exit → Act → World → Prop} (hgd : o.guard = none) (s x : Operand) (t : TypeId)
    (ho : o.op = .call { callee := .builtin .append, args := #[s, x], argTypes := #[t, t] })
    (base : Nat) (e : TypeId) (i : TypeInfo) (z : Value) (bytes : Nat) (ht : P.underlying t = some (.slice e)) (hi : P.info? e = some i) (hz : i.zero = some z)
    (hsize : i.size = 1) (hby : i.bytes = bytes) (hzs : z.cells.size = 1)
    (v : Value) (n : Nat) (xs : List Value) (hs : a.eval s = v) (hown : w.ownsRow base e 1 v n xs)
    (ad : Addr) (c : Nat) (y : Value) (hx : a.eval x = .slice (some ad) 1 c) (hnews : w.cell? ad = some y) (h1 : y.oneCell' = true)
    (h63 : n + 1 ≤ maxLen) (hbytes : (n + 1) * bytes ≤ 140737488355328) (hbase : base ≤ w.heap.size)
    (h : ∀ g cap w', w'.ownsRow base e 1 (.slice (some ⟨g, 0, none⟩) (n + 1) cap) (n + 1) (xs ++ [y]) → AppCase w w' v n g cap → wpList P ops Q rest (a.put o.dst (.slice (some ⟨g, 0, none⟩) (n + 1) cap)) w') :
    wpList P ops Q (o :: rest) a w := by
  refine wpList_plain hgd fun K hK => ?_
  obtain ⟨g, cap, w', hr, h2, h3⟩ := run_append_two (P := P) w base t o.type e i z bytes ht hi hz hsize hby hzs v n xs hown ad c y hnews h1 h63 hbytes hbase
  unfold Oper.wp execOp
  simp only [ho, resolve, invoke, builtin, Sem.run_bind, Sem.run_pure, Result.andThen_ok, List.map_toArray, List.map_cons, List.map_nil, hs, hx, hr]
  exact hK _ _ (h g cap w' h2 h3)
end

/-- What an append left of the row that it was put behind. -/
theorem short_after {W w1 : World} {base e m n : Nat} {g cap : Nat} {v u : Value} {xs ys : List Value} (hv : W.ownsRow base e 1 v n xs) (hu : W.ownsRow base e 1 u m ys) (hp : xs <+: ys) {z : List Value} (hz : ys <+: z)
    (h1 : w1.ownsRow base e 1 (.slice (some ⟨g, 0, none⟩) (m + 1) cap) (m + 1) z) (hnm : n ≤ m)
    (h : AppCase W w1 u m g cap) : w1.ownsRow base e 1 v n xs := by
  rcases h with ⟨rfl, hg⟩ | ⟨_, hb⟩
  · rcases hv.2 with ⟨rfl, rfl⟩ | ⟨g', cap', cur, rfl, _⟩
    · have : xs = [] := List.eq_nil_of_length_eq_zero (by simpa using hv.1)
      subst this
      exact World.ownsRow_nil _ _ _ _
    · by_cases he : g' = g
      · subst he
        obtain rfl := own_cap hv hu
        have := own_short h1 n (by omega)
        have e1 : z.take n = xs := by
          obtain ⟨a, ha⟩ := hp.trans hz
          rw [← ha, List.take_left' (by have := hv.1; omega)]
        rwa [e1] at this
      · exact own_other hv hg (.inr (by simp [Value.ownBlock, he]))
  · exact pw_own_below hv hb
end Go.Proofs.YtlicjpbmlmongaaDoor.H

end
section
/- The book of lists: marks, and a list put into it. -/
set_option linter.unusedVariables false
set_option linter.unusedSimpArgs false
namespace Go.Proofs.YtlicjpbmlmongaaDoor.H
open Go.RowKit Go.Proofs.YtlicjpbmlmongaaDoorW.PrintWords Go.Proofs

/-- The mark of the n-th list. -/
def markS (n : Nat) : ByteArray := ⟨#[35]⟩ ++ ⟨(Lib.decDigits n).toArray⟩
theorem dec_short : ∀ n, n < 100 → (Lib.decDigits n).length ≤ 2 := by decide +kernel
set_option maxHeartbeats 1000000 in
theorem word_calls (n : Nat) (h : n < 100) (w : World) : Calls Tryd.prog 83 #[.int .i64 n] w fun e w' => e = .returned (.string (markS n)) ∧ w = w' := by
  have hs := dec_short n h
  obtain ⟨D, hD⟩ : ∃ D : ByteArray, ⟨(Lib.decDigits n).toArray⟩ = D := ⟨_, rfl⟩
  have hs2 : D.size ≤ 2 := by rw [← hD, Lib.size_eq]; exact hs
  have hc := fun w => Tryd.strconv_Itoa_small n h w
  unfold markS
  rw [hD] at hc ⊢
  clear hs hD
  go_enter Tryd.func83, Tryd.ntmps83
  go_wp2_with (go_at_call 85; refine (hc _).mono ?_; rintro e w' ⟨rfl, rfl⟩)
  go_ret
  exact ⟨rfl, rfl⟩
set_option maxHeartbeats 1000000 in
theorem markText_calls (n : Nat) (h : n < 100) (w : World) : Calls Tryd.prog 60 #[.int .i64 n] w fun e w' => e = .returned (.string (markS n)) ∧ w = w' := by
  go_enter Tryd.func60, Tryd.ntmps60
  go_wp2_with (go_at_call 83; refine (word_calls n h _).mono ?_; rintro e w' ⟨rfl, rfl⟩)
  go_ret
  exact ⟨rfl, rfl⟩
set_option maxHeartbeats 1000000 in
theorem isText_calls (n : Nat) (h : n < 100) (w : World) : Calls Tryd.prog 72 #[.string (markS n), .int .i64 n] w fun e w' => e = .returned (.bool true) ∧ w = w' := by
  go_enter Tryd.func72, Tryd.ntmps72
  go_wp2_with (go_at_call 83; refine (word_calls n h _).mono ?_; rintro e w' ⟨rfl, rfl⟩)
  go_ret
  exact ⟨by simp, rfl⟩

/-- A list that is held: its value, what was put behind it, its number. -/
structure Held where
  v : Value
  long : Value
  n : Nat
def Held.cells (h : Held) : List Value := [h.v, h.long, .int .i64 h.n]
def flatH (L : List Held) : List Value := L.flatMap Held.cells
theorem flatH_len (L : List Held) : (flatH L).length = L.length * 3 := by
  induction L with
  | nil => rfl
  | cons h L ih => simp only [flatH, List.flatMap_cons, List.length_append, Held.cells, List.length_cons, List.length_nil] at ih ⊢; omega
theorem flatH_get (L : List Held) : ∀ (i : Nat) (hi : i < L.length), (flatH L)[3 * i]? = some L[i].v ∧ (flatH L)[3 * i + 1]? = some L[i].long ∧ (flatH L)[3 * i + 2]? = some (.int .i64 L[i].n) := by
  induction L with
  | nil => intro i hi; simp at hi
  | cons h L ih =>
    intro i hi
    match i, hi with
    | 0, _ => exact ⟨rfl, rfl, rfl⟩
    | i + 1, hi =>
      obtain ⟨a, b, c⟩ := ih i (by simpa using hi)
      have e : flatH (h :: L) = h.v :: h.long :: .int .i64 h.n :: flatH L := rfl
      rw [e]
      refine ⟨?_, ?_, ?_⟩
      · rw [show 3 * (i + 1) = 3 * i + 1 + 1 + 1 by omega]; exact a
      · rw [show 3 * (i + 1) + 1 = 3 * i + 1 + 1 + 1 + 1 by omega]; exact b
      · rw [show 3 * (i + 1) + 2 = 3 * i + 2 + 1 + 1 + 1 by omega]; exact c
theorem flatH_app (L M : List Held) : flatH (L ++ M) = flatH L ++ flatH M := List.flatMap_append
theorem flatH_setLong (L : List Held) : ∀ (i : Nat) (hi : i < L.length) (u : Value), (flatH L).set (3 * i + 1) u = flatH (L.set i ⟨L[i].v, u, L[i].n⟩) := by
  induction L with
  | nil => intro i hi; simp at hi
  | cons h L ih =>
    intro i hi u
    match i, hi with
    | 0, _ => rfl
    | i + 1, hi =>
      have e : ∀ (x : Held) (M : List Held), flatH (x :: M) = x.v :: x.long :: .int .i64 x.n :: flatH M := fun _ _ => rfl
      rw [e, show 3 * (i + 1) + 1 = 3 * i + 1 + 1 + 1 + 1 by omega]
      simp only [List.set_cons_succ, List.getElem_cons_succ]
      rw [e, ih i (by simpa using hi) u]

/-- The book: how many lists it has held, and the lists. -/
structure Book (Bk : Nat) (T : Value) (m : Nat) (L : List Held) (W : World) : Prop where
  at_ : W.heap[Bk]? = some (.cells #[.int .i64 m, .slice none 0 0, .slice none 0 0, T, .slice none 0 0, .slice none 0 0, .slice none 0 0, .slice none 0 0, .slice none 0 0, .slice none 0 0, .slice none 0 0, .slice none 0 0, .slice none 0 0] 42 (0, 0))
  own : W.ownsRow (Bk + 1) 64 3 T L.length (flatH L)
theorem blk_cell' {w : World} {b : Nat} {cs : Array Value} {t : TypeId} (h : w.heap[b]? = some (.cells cs t (0, 0))) (i : Nat) : w.cell? ⟨b, i, none⟩ = cs[i]? := by
  rw [Lib.cell_of_heap h]
theorem blk_frozen' {w : World} {b : Nat} {cs : Array Value} {t : TypeId} (h : w.heap[b]? = some (.cells cs t (0, 0))) (i : Nat) : w.frozen? ⟨b, i, none⟩ = false := Lib.frozen_of_heap h i
theorem own_block_ne {w : World} {base e s n : Nat} {v : Value} {xs : List Value} {g t : Nat} {cells : Array Value} (h : w.ownsRow base e s v n xs) (hb : w.heap[g]? = some (.cells cells t (0, 0))) (hlt : g < base) : v.ownBlock = none ∨ v.ownBlock ≠ some g := by
  right
  intro he
  have := own_base h g he
  omega
theorem grown_set (W : World) (b o : Nat) (v : Value) : W.grownBy (W.setCell ⟨b, o, none⟩ v) (some b) :=
  ⟨rfl, rfl, rfl, (KeepsWalks.setCell W _ v).size, fun k _ hk => Below.heap_setCell _ _ _ k (fun e => hk (by rw [e]))⟩
theorem infoH : (Tryd.prog.info? 64).map (fun i => (i.zero, i.size, i.bytes)) = some (some (.agg #[.slice none 0 0, .slice none 0 0, .int .i64 0]), 3, 56) := by kernel_rfl

set_option maxHeartbeats 2000000 in
set_option maxRecDepth 100000 in
theorem keepText_calls (Bk : Nat) (T : Value) (m : Nat) (L : List Held) (A : Option Addr) (ln c : Nat) (w : World) (hB : Book Bk T m L w) (hm : m ≤ 1000) (hL : L.length ≤ 1000) :
    Calls Tryd.prog 18 #[.pointer (some ⟨Bk, 0, none⟩), .slice A ln c] w fun e w' => e = .returned (.tuple #[]) ∧ (∃ T', Book Bk T' (m + 1) (L ++ [⟨.slice A ln c, .slice none 0 0, m + 1⟩]) w') ∧ Below Bk w w' := by
  obtain ⟨i0, hi, hz0, hz1, hz2⟩ := info_parts infoH
  have HB := Lib.hid hB
  have c0 : w.cell? ⟨Bk, 0, none⟩ = some (.int .i64 m) := blk_cell' hB.at_ 0
  have c3 : w.cell? ⟨Bk, 3, none⟩ = some T := blk_cell' hB.at_ 3
  have f0 := blk_frozen' hB.at_ 0
  have f3 := blk_frozen' hB.at_ 3
  clear hB
  go_enter Tryd.func18, Tryd.ntmps18
  go_wp2
  obtain ⟨w1, hw1⟩ : ∃ w1, w.setCell ⟨Bk, 0, none⟩ (.int .i64 ((m : Int) + 1)) = w1 := ⟨_, rfl⟩
  have hat : w1.heap[Bk]? = some (.cells #[.int .i64 ((m : Int) + 1), .slice none 0 0, .slice none 0 0, T, .slice none 0 0, .slice none 0 0, .slice none 0 0, .slice none 0 0, .slice none 0 0, .slice none 0 0, .slice none 0 0, .slice none 0 0, .slice none 0 0] 42 (0, 0)) := by
    rw [← hw1]; exact blk_put HB.out.at_ 0 _ rfl
  have how : w1.ownsRow (Bk + 1) 64 3 T L.length (flatH L) := by
    rw [← hw1]; exact own_other HB.out.own (grownBy_setCell' w Bk _) (own_block_ne HB.out.own HB.out.at_ (by omega))
  have hbl : Below Bk w w1 := by rw [← hw1]; exact (Below.refl Bk w).setCell (p := ⟨Bk, 0, none⟩) (Nat.le_refl _) _
  have hlt : Bk < w1.heap.size := blk_lt hat
  rw [hw1]
  clear hw1 c0 c3 f0 f3
  have d0 : w1.cell? ⟨Bk, 0, none⟩ = some (.int .i64 ((m : Int) + 1)) := blk_cell' hat 0
  have d3 : w1.cell? ⟨Bk, 3, none⟩ = some T := blk_cell' hat 3
  have HAT := Lib.hid hat
  have HOW := Lib.hid how
  clear hat how
  have hone : ∀ u ∈ [Value.slice A ln c, .slice none 0 0, .int .i64 ((m : Int) + 1)], u.oneCell' = true := by
    intro u hu; simp at hu; rcases hu with rfl | rfl | rfl <;> rfl
  have HONE := Lib.hid hone
  clear hone
  go_region_law (refine step_append_lies _ rfl (.tmp 15) (.tmp 22) 31 rfl (Bk + 1) 64 i0 _ 3 56 Tryd.underlying31 hi hz0 hz1 hz2 rfl (by decide) T L.length (flatH L) (by simp [Act.eval, Act.put]) ((HOW.out).drew.alloc _) ⟨w1.heap.size, 0, none⟩ 1 1 [.slice A ln c, .slice none 0 0, .int .i64 ((m : Int) + 1)] (by simp [Act.eval, Act.put]) rfl (by exact World.news_of_block (heap_alloc_new w1.drew _)) HONE.out (by decide) (by unfold maxLen; omega) (by omega) (by simp; omega) _ rfl ?_; intro g cap w2 hown2 hgrow2 hat2 hlt2; have hat3 : w2.heap[Bk]? = w1.heap[Bk]? := (hgrow2.block Bk (by simp; omega) (by have := own_block_ne HOW.out HAT.out (by omega); rcases this with h | h; (rw [h]; simp); exact fun e => h e.symm)).trans (Lib.alloc_old w1.drew _ Bk hlt); have hat4 := hat3.trans HAT.out; have e3 : w2.cell? ⟨Bk, 3, none⟩ = some T := blk_cell' hat4 3; have g3 : w2.frozen? ⟨Bk, 3, none⟩ = false := blk_frozen' hat4 3)
  all_goals
    go_end0
    refine ⟨rfl, ⟨_, ⟨blk_put hat4 3 _ rfl, ?_⟩⟩, ?_⟩
    · have := own_other hown2 (grown_set w2 Bk 3 (.slice (some ⟨g, 0, none⟩) (L.length + 1) cap)) (.inr (by simp [Value.ownBlock]; exact Ne.symm (by
        intro e; subst e
        rcases hown2.2 with ⟨h, _⟩ | ⟨g', cap', cur, h, hb, _⟩
        · cases h
        · simp only [Value.slice.injEq, Option.some.injEq, Addr.mk.injEq, and_true, true_and] at h
          obtain ⟨rfl, _⟩ := h
          omega)))
      rw [flatH_app, List.length_append]
      exact this
    · exact ((Below.grown (((hbl.drew).alloc (by simp; omega) _)) hgrow2 (by simp; omega) (fun k hk => by have := own_base HOW.out k hk; omega))).setCell (p := ⟨Bk, 3, none⟩) (Nat.le_refl _) _
set_option maxHeartbeats 1000000 in
theorem texts_calls (Bk : Nat) (T : Value) (m : Nat) (L : List Held) (A : Option Addr) (ln c : Nat) (w : World) (hB : Book Bk T m L w) (hm : m ≤ 1000) (hL : L.length ≤ 1000) :
    Calls Tryd.prog 11 #[.pointer (some ⟨Bk, 0, none⟩), .slice A ln c] w fun e w' => e = .returned (.tuple #[]) ∧ (∃ T', Book Bk T' (m + 1) (L ++ [⟨.slice A ln c, .slice none 0 0, m + 1⟩]) w') ∧ Below Bk w w' := by
  have HB := Lib.hid hB
  clear hB
  go_enter Tryd.func11, Tryd.ntmps11
  go_wp2_with (go_at_call 18; refine (keepText_calls Bk T m L A ln c _ HB.out hm hL).mono ?_; rintro e w' ⟨rfl, hX, hb⟩; have HX := Lib.hid hX; clear hX)
  go_end0
  exact ⟨rfl, HX.out, hb⟩
end Go.Proofs.YtlicjpbmlmongaaDoor.H

end
section
/- The book of lists: marks are written into all. -/
set_option linter.unusedVariables false
set_option linter.unusedSimpArgs false
namespace Go.Proofs.YtlicjpbmlmongaaDoor.H
open Go.RowKit Go.Proofs.YtlicjpbmlmongaaDoorW.PrintWords Go.Proofs

def zH : Held := ⟨.slice none 0 0, .slice none 0 0, 0⟩
/-- The lists as rows of the call's own. -/
def RowsL (B0 : Nat) (L : List Held) (X : Nat → List ByteArray) (W : World) : Prop := ∀ i, i < L.length → W.ownsRow B0 9 1 (L.getD i zH).v (X i).length (strs (X i))
/-- Each in a block of its own, below the book's. -/
structure ApartL (Bk : Nat) (L : List Held) : Prop where
  low : ∀ i, i < L.length → ∀ b, (L.getD i zH).v.ownBlock = some b → b < Bk
  ne : ∀ i j, i < L.length → j < L.length → i ≠ j → (L.getD i zH).v.ownBlock = none ∨ (L.getD i zH).v.ownBlock ≠ (L.getD j zH).v.ownBlock
  num : ∀ i, i < L.length → (L.getD i zH).n < 100
  sl : ∀ i, i < L.length → ∃ a n c, (L.getD i zH).long = .slice a n c
theorem rows_of_one {B0 Bk : Nat} {L : List Held} {X X' : Nat → List ByteArray} {W W1 : World} (hA : ApartL Bk L) (h : RowsL B0 L X W) (i : Nat) (hi : i < L.length)
    (hg : W.grownBy W1 (L.getD i zH).v.ownBlock) (ho : W1.ownsRow B0 9 1 (L.getD i zH).v (X' i).length (strs (X' i))) (hX : ∀ j, j ≠ i → X' j = X j) : RowsL B0 L X' W1 := by
  intro j hj
  by_cases e : j = i
  · subst e; exact ho
  · rw [hX j e]; exact own_other (h j hj) hg (hA.ne j i hj hi e)
theorem book_keeps {Bk m : Nat} {T : Value} {L : List Held} {W W1 : World} {row : Option Nat} (h : Book Bk T m L W) (hg : W.grownBy W1 row) (hr : ∀ b, row = some b → b < Bk) : Book Bk T m L W1 :=
  ⟨(hg.block Bk (blk_lt h.at_) (fun e => by have := hr Bk e.symm; omega)).trans h.at_, own_other h.own hg (by
    cases row with
    | none => cases T.ownBlock <;> simp
    | some b =>
      right; intro e
      have h1 := own_base h.own b e
      have h2 := hr b rfl
      omega)⟩
theorem _root_.Go.World.grownBy.weak {W W1 : World} (h : W.grownBy W1 none) (row : Option Nat) : W.grownBy W1 row := ⟨h.os, h.tape, h.output, h.size, fun k hk _ => h.block k hk (by simp)⟩
theorem grown_dr {W W1 : World} {row : Option Nat} (h : W.grownBy W1 row) : W.grownBy W1.drew row := ⟨h.os, h.tape, h.output, h.size, h.block⟩
theorem grown_low {B0 : Nat} {w W W1 : World} {row : Option Nat} (h : Below B0 w W) (hB : B0 ≤ W.heap.size) (hg : W.grownBy W1 row) (hr : ∀ b, row = some b → B0 ≤ b) : Below B0 w W1 := h.grown hg hB hr
/-- What stands in the lists when the first i are marked. -/
def marksTo (L : List Held) (X : Nat → List ByteArray) (i : Nat) (j : Nat) : List ByteArray := if j < i then List.replicate (X j).length (markS (L.getD j zH).n) else X j
theorem marks_len (L : List Held) (X : Nat → List ByteArray) (i j : Nat) : (marksTo L X i j).length = (X j).length := by unfold marksTo; split <;> simp
theorem mark_step (x : List ByteArray) (m : ByteArray) (k : Nat) (hk : k < x.length) : (strs (List.replicate k m ++ x.drop k)).set k (.string m) = strs (List.replicate (k + 1) m ++ x.drop (k + 1)) := by
  unfold strs
  rw [← List.map_set, List.set_append_right _ _ (by simp), List.length_replicate, Nat.sub_self, List.drop_eq_getElem_cons hk, List.set_cons_zero, List.replicate_succ', List.append_assoc]
  rfl

theorem mark_at (x : List ByteArray) (m : ByteArray) (k : Nat) (hk : k < x.length) : (strs (List.replicate k m ++ x.drop k))[k]? = some (.string x[k]) := by
  unfold strs
  rw [List.getElem?_map, List.getElem?_append_right (by simp), List.length_replicate, Nat.sub_self, List.drop_eq_getElem_cons hk]
  rfl
/-- A book's entry, as cells. -/
theorem book_entry {Bk m g cap : Nat} {L : List Held} {W : World} (h : Book Bk (.slice (some ⟨g, 0, none⟩) L.length cap) m L W) (i : Nat) (hi : i < L.length) :
    W.cell? ⟨g, i * 3, none⟩ = some (L.getD i zH).v ∧ W.cell? ⟨g, i * 3 + 1, none⟩ = some (L.getD i zH).long ∧ W.cell? ⟨g, i * 3 + 2, none⟩ = some (.int .i64 (L.getD i zH).n) := by
  obtain ⟨a, b, c⟩ := flatH_get L i hi
  have e : L.getD i zH = L[i] := by rw [List.getD_eq_getElem?_getD, List.getElem?_eq_getElem hi]; rfl
  rw [e, Nat.mul_comm i 3]
  have hk := fun j (hj : j < L.length * 3) => h.own.cellAt j hj
  exact ⟨(hk _ (by omega)).trans a, (hk _ (by omega)).trans b, (hk _ (by omega)).trans c⟩

set_option maxHeartbeats 4000000 in
set_option maxRecDepth 100000 in
theorem fillText_calls (B0 Bk : Nat) (T : Value) (m : Nat) (L : List Held) (X : Nat → List ByteArray) (w : World) (hB : Book Bk T m L w) (hL : L.length ≤ 1000) (hA : ApartL Bk L) (hR : RowsL B0 L X w) (h0 : B0 ≤ Bk) :
    Calls Tryd.prog 21 #[.pointer (some ⟨Bk, 0, none⟩)] w fun e w' => e = .returned (.tuple #[]) ∧ Book Bk T m L w' ∧ RowsL B0 L (marksTo L X L.length) w' ∧ Below B0 w w' := by
  have HB := Lib.hid hB
  have HR := Lib.hid hR
  have HA := Lib.hid hA
  have hBk := blk_lt hB.at_
  clear hB hR hA
  go_enter Tryd.func21, Tryd.ntmps21
  go_wp2
  go_loopw [2] (fun i wr => ∃ k : Nat, k ≤ L.length ∧ i = .int .i64 k ∧ Hid (Book Bk T m L wr ∧ RowsL B0 L (marksTo L X k) wr ∧ Below B0 w wr)) (fun i _ => L.length - (intOf i).toNat)
  case atStart => exact ⟨0, Nat.zero_le _, rfl, Lib.hid ⟨HB.out, fun j hj => by have := HR.out j hj; simpa [marksTo] using this, Below.refl _ _⟩⟩
  case round =>
    obtain ⟨i, hi, rfl, hr⟩ := hrel
    have c3 : wr.cell? ⟨Bk, 3, none⟩ = some T := blk_cell' hr.out.1.at_ 3
    by_cases hlt : i < L.length
    · obtain ⟨g, cap, rfl, hgb, hgl⟩ := hr.out.1.own.form (by omega)
      obtain ⟨e0, e1, e2⟩ := book_entry hr.out.1 i hlt
      obtain ⟨a1, n1, c1, hl1⟩ := HA.out.sl i hlt
      obtain ⟨a2, c2, hv2⟩ := own_slice (hr.out.2.1 i hlt)
      rw [marks_len] at hv2
      obtain ⟨N, hN⟩ : ∃ N, (L.getD i zH).n = N := ⟨_, rfl⟩
      rw [hv2] at e0
      rw [hl1] at e1
      rw [hN] at e2
      have HL1 := Lib.hid hl1
      have HV2 := Lib.hid hv2
      have HN := Lib.hid hN
      clear hl1 hv2 hN
      have hn100 : N < 100 := by have := HA.out.num i hlt; rw [HN.out] at this; exact this
      have hrow : Hid (wr.ownsRow B0 9 1 (.slice a2 (X i).length c2) (X i).length (strs (X i))) := Lib.hid (by
        have := hr.out.2.1 i hlt; rw [HV2.out] at this; simpa [marksTo] using this)
      have hown2 : ∀ b, (Value.slice a2 (X i).length c2).ownBlock = some b → b < Bk := by have := HA.out.low i hlt; rw [HV2.out] at this; exact this
      have HOWN2 := Lib.hid hown2
      clear hown2
      have hBz : Bk < wr.heap.size := blk_lt hr.out.1.at_
      go_wp2
      obtain ⟨W0, hW0⟩ : ∃ W0, wr.alloc (Obj.cells #[Value.slice a2 (X i).length c2, Value.slice a1 n1 c1, Value.int IntKind.i64 (N : Int)] 64) = W0 := ⟨_, rfl⟩
      have hblk : W0.heap[wr.heap.size]? = some (.cells #[Value.slice a2 (X i).length c2, Value.slice a1 n1 c1, Value.int IntKind.i64 (N : Int)] 64 (0, 0)) := by rw [← hW0]; exact World.alloc_heap_new wr _
      have hrow0 : Hid (W0.ownsRow B0 9 1 (.slice a2 (X i).length c2) (X i).length (strs (X i))) := Lib.hid (by rw [← hW0]; exact hrow.out.alloc _)
      have hg0 : Hid (wr.grownBy W0 none) := Lib.hid (by rw [← hW0]; exact World.grownBy_alloc wr _ none)
      have HBLK := Lib.hid hblk
      rw [hW0]
      clear hW0 hblk hrow c3 e0 e1 e2
      obtain ⟨wo, rfl⟩ : ∃ wo : World, wo = wr := ⟨_, rfl⟩
      go_loopw [4] (fun kv wi => ∃ k : Nat, k ≤ (X i).length ∧ kv = .int .i64 k ∧ Hid (W0.grownBy wi (Value.slice a2 (X i).length c2).ownBlock ∧ wi.ownsRow B0 9 1 (.slice a2 (X i).length c2) (X i).length (strs (List.replicate k (markS N) ++ (X i).drop k)))) (fun kv _ => (X i).length - (intOf kv).toNat)
      case atStart => exact ⟨0, Nat.zero_le _, rfl, Lib.hid ⟨World.grownBy.refl _ _, hrow0.out⟩⟩
      case round =>
        obtain ⟨k, hk, rfl, hi2⟩ := hrel
        have hb1 : wr.heap[wo.heap.size]? = some (.cells #[Value.slice a2 (X i).length c2, Value.slice a1 n1 c1, Value.int IntKind.i64 (N : Int)] 64 (0, 0)) :=
          (hi2.out.1.block _ (blk_lt HBLK.out) (fun e => by have := HOWN2.out _ e.symm; omega)).trans HBLK.out
        have q0 := blk_cell' hb1 0
        have q2 := blk_cell' hb1 2
        have hx63 : (X i).length ≤ 9223372036854775807 := by
          rcases hi2.out.2.2 with ⟨h, h'⟩ | ⟨g', cap', cur, h, _, _, h1, h2, _⟩
          · omega
          · unfold maxLen at h2; omega
        simp only [List.getElem?_toArray, List.getElem?_cons_zero, List.getElem?_cons_succ] at q0 q2
        by_cases hkl : k < (X i).length
        · obtain ⟨g2, cap2, hv3, hgb2, hgl2⟩ := hi2.out.2.form (by omega)
          injection hv3 with hv3 _ hv4
          subst hv3 hv4
          have z1 : wr.cell? ⟨g2, k, none⟩ = some (.string ((X i)[k])) := (hi2.out.2.cellAt k (by omega)).trans (mark_at _ _ k hkl)
          have z2 : wr.frozen? ⟨g2, k, none⟩ = false := hi2.out.2.frozenAt k
          go_wp2
          go_region_with ((go_at_call 60; refine (markText_calls N hn100 _).mono ?_; rintro e w' ⟨rfl, rfl⟩))
          all_goals
            go_wp2
            go_roundw
            case rel =>
              have hst := hi2.out.2.stored k (.string (markS N))
              rw [mark_step _ _ k hkl] at hst
              exact ⟨k + 1, by omega, by go_num, Lib.hid ⟨World.grownBy.trans hi2.out.1 (by first | exact hst.2 | exact grown_dr hst.2), by first | exact hst.1 | exact hst.1.drew⟩⟩
            case measure => simp [intOf]; omega
        · obtain rfl : k = (X i).length := by omega
          have hX2 : List.replicate (X i).length (markS N) ++ (X i).drop (X i).length = List.replicate (X i).length (markS N) := by simp
          rw [hX2] at hi2
          go_wp2
          go_roundw
          case rel =>
            refine ⟨i + 1, by omega, by go_num, Lib.hid ⟨?_, ?_, ?_⟩⟩
            · exact book_keeps (book_keeps hr.out.1 hg0.out (fun b h => by cases h)) hi2.out.1 HOWN2.out
            · have hg1 : wo.grownBy wr (L.getD i zH).v.ownBlock := by rw [HV2.out]; exact World.grownBy.trans (hg0.out.weak _) hi2.out.1
              refine rows_of_one HA.out hr.out.2.1 i hlt hg1 ?_ ?_
              · rw [HV2.out, marks_len]
                have e : marksTo L X (i + 1) i = List.replicate (X i).length (markS N) := by unfold marksTo; rw [if_pos (by omega), HN.out]
                rw [e]; exact hi2.out.2
              · intro j hj; unfold marksTo
                by_cases h : j < i
                · rw [if_pos (by omega), if_pos h]
                · rw [if_neg (by omega), if_neg h]
            · exact (hr.out.2.2.grown (hg0.out.weak none) (by omega) (fun b h => by cases h)).grown hi2.out.1 (by have := hg0.out.size; omega) (fun b h => by
                rcases hi2.out.2.2 with ⟨h', _⟩ | ⟨g', cap', cur, h', hb', _⟩
                · rw [h'] at h; simp [Value.ownBlock] at h
                · rw [h'] at h; simp [Value.ownBlock] at h; omega)
          case measure => simp [intOf]; omega
    · obtain rfl : i = L.length := by omega
      obtain ⟨aT, cT, hT⟩ := own_slice hr.out.1.own
      subst hT
      go_wp2
      go_end0
      exact ⟨rfl, hr.out.1, hr.out.2.1, hr.out.2.2⟩
end Go.Proofs.YtlicjpbmlmongaaDoor.H

end
section
/- The book of lists: marks are put behind each. -/
set_option linter.unusedVariables false
set_option linter.unusedSimpArgs false
namespace Go.Proofs.YtlicjpbmlmongaaDoor.H
open Go.RowKit Go.Proofs.YtlicjpbmlmongaaDoorW.PrintWords Go.Proofs

theorem grown_more {W0 W W1 : World} {row : Option Nat} {g : Nat} (h : W0.grownBy W row) (k : W.grownBy W1 (some g)) (hg : some g = row ∨ W0.heap.size ≤ g) : W0.grownBy W1 row :=
  ⟨k.os.trans h.os, k.tape.trans h.tape, k.output.trans h.output, Nat.le_trans h.size k.size, fun j hj hne => (k.block j (Nat.lt_of_lt_of_le hj h.size) (fun e => by
    rcases hg with hg | hg
    · exact hne (e.trans hg)
    · have : j = g := by simpa using e
      omega)).trans (h.block j hj hne)⟩
/-- What stands behind the j-th list. -/
def LongOK (B0 Bk : Nat) (L : List Held) (X : Nat → List ByteArray) (u : Value) (j : Nat) (W : World) : Prop :=
  W.ownsRow B0 9 1 u ((X j).length + 40) (strs (X j ++ List.replicate 40 (markS (L.getD j zH).n))) ∧ (u.ownBlock = (L.getD j zH).v.ownBlock ∨ ∃ c, u.ownBlock = some c ∧ Bk ≤ c)
structure GrowInv (B0 Bk m : Nat) (T : Value) (L : List Held) (X : Nat → List ByteArray) (w : World) (i : Nat) (L' : List Held) (W : World) : Prop where
  len : L'.length = L.length
  same : ∀ j, j < L.length → (L'.getD j zH).v = (L.getD j zH).v ∧ (L'.getD j zH).n = (L.getD j zH).n
  rest : ∀ j, i ≤ j → j < L.length → L'.getD j zH = L.getD j zH
  book : Book Bk T m L' W
  rows : RowsL B0 L X W
  longs : ∀ j, j < i → LongOK B0 Bk L X (L'.getD j zH).long j W
  low : Below B0 w W
theorem long_keeps {B0 Bk : Nat} {L : List Held} {X : Nat → List ByteArray} {u : Value} {j i : Nat} {W W1 : World} (hA : ApartL Bk L) (hj : j < L.length) (hi : i < L.length) (hne : j ≠ i) (h : LongOK B0 Bk L X u j W) (hg : W.grownBy W1 (L.getD i zH).v.ownBlock) : LongOK B0 Bk L X u j W1 := by
  refine ⟨own_other h.1 hg ?_, h.2⟩
  rcases h.2 with h2 | ⟨c, h2, hc⟩
  · rw [h2]; exact hA.ne j i hj hi hne
  · right
    intro e
    rw [h2] at e
    have := hA.low i hi c e.symm
    omega
/-- The book's entry is turned; the lists lie elsewhere. -/
theorem grow_store {B0 Bk m g cap : Nat} {L L' : List Held} {X : Nat → List ByteArray} {w W : World} {i : Nat} {u : Value} (hA : ApartL Bk L) (hi : i < L.length) (h : GrowInv B0 Bk m (.slice (some ⟨g, 0, none⟩) L'.length cap) L X w i L' W) (hu : LongOK B0 Bk L X u i W) (h0 : B0 ≤ Bk) :
    GrowInv B0 Bk m (.slice (some ⟨g, 0, none⟩) L'.length cap) L X w (i + 1) (L'.set i ⟨(L'.getD i zH).v, u, (L'.getD i zH).n⟩) (W.setCell ⟨g, i * 3 + 1, none⟩ u) := by
  have hi' : i < L'.length := by rw [h.len]; exact hi
  have e : L'.getD i zH = L'[i] := by rw [List.getD_eq_getElem?_getD, List.getElem?_eq_getElem hi']; rfl
  have hset : ∀ j, (L'.set i ⟨(L'.getD i zH).v, u, (L'.getD i zH).n⟩).getD j zH = if j = i then ⟨(L'.getD i zH).v, u, (L'.getD i zH).n⟩ else L'.getD j zH := by
    intro j
    rw [List.getD_eq_getElem?_getD, List.getElem?_set]
    by_cases hj : j = i
    · subst hj; rw [if_pos rfl, if_pos hi', if_pos rfl]; rfl
    · rw [if_neg (fun e => hj e.symm), if_neg hj, List.getD_eq_getElem?_getD]
  obtain ⟨hs1, hs2⟩ := h.book.own.stored (i * 3 + 1) u
  have hgb := own_base h.book.own g rfl
  have hother : ∀ {n : Nat} {v : Value} {xs : List Value}, W.ownsRow B0 9 1 v n xs → (W.setCell ⟨g, i * 3 + 1, none⟩ u).ownsRow B0 9 1 v n xs := fun {n v xs} ho => own_other ho hs2 (by
    have := own_type_ne ho h.book.own (by decide)
    exact this)
  refine ⟨by rw [List.length_set]; exact h.len, fun j hj => ?_, fun j hj hjl => ?_, ⟨?_, ?_⟩, fun j hj => hother (h.rows j hj), fun j hj => ?_, h.low.setCell (p := ⟨g, i * 3 + 1, none⟩) (by show B0 ≤ g; omega) u⟩
  · rw [hset]
    by_cases hji : j = i
    · subst hji; rw [if_pos rfl]; exact h.same j hj
    · rw [if_neg hji]; exact h.same j hj
  · rw [hset, if_neg (by omega)]; exact h.rest j (by omega) hjl
  · exact (hs2.block Bk (blk_lt h.book.at_) (by intro e; injection e with e; omega)).trans h.book.at_
  · rw [List.length_set, e, ← flatH_setLong L' i hi' u, Nat.mul_comm 3 i]
    exact hs1
  · rw [hset]
    by_cases hji : j = i
    · subst hji; rw [if_pos rfl]; exact ⟨hother hu.1, hu.2⟩
    · rw [if_neg hji]; have := h.longs j (by omega); exact ⟨hother this.1, this.2⟩

set_option maxHeartbeats 4000000 in
set_option maxRecDepth 100000 in
theorem growText_calls (B0 Bk : Nat) (T : Value) (m : Nat) (L : List Held) (X : Nat → List ByteArray) (hX : ∀ j, j < L.length → (X j).length ≤ 8796093022000) (w : World) (hB : Book Bk T m L w) (hL : L.length ≤ 1000) (hA : ApartL Bk L) (hR : RowsL B0 L X w) (h0 : B0 ≤ Bk) :
    Calls Tryd.prog 33 #[.pointer (some ⟨Bk, 0, none⟩)] w fun e w' => e = .returned (.tuple #[]) ∧ ∃ L', GrowInv B0 Bk m T L X w L.length L' w' := by
  obtain ⟨i0, hi, hz0, hz1, hz2⟩ := info_parts infoS
  have HA := Lib.hid hA
  have hBk := blk_lt hB.at_
  have HI : Hid (GrowInv B0 Bk m T L X w 0 L w) := Lib.hid ⟨rfl, fun _ _ => ⟨rfl, rfl⟩, fun _ _ _ => rfl, hB, hR, fun j hj => by omega, Below.refl _ _⟩
  have HX := Lib.hid hX
  clear hB hR hA hX
  go_enter Tryd.func33, Tryd.ntmps33
  go_wp2
  go_loopw [2] (fun i wr => ∃ k : Nat, k ≤ L.length ∧ i = .int .i64 k ∧ Hid (∃ L', GrowInv B0 Bk m T L X w k L' wr)) (fun i _ => L.length - (intOf i).toNat)
  case atStart => exact ⟨0, Nat.zero_le _, rfl, Lib.hid ⟨L, HI.out⟩⟩
  case round =>
    obtain ⟨i, hi2, rfl, hr'⟩ := hrel
    obtain ⟨L', hr0⟩ := hr'.out
    have hr := Lib.hid hr0
    have c3 : wr.cell? ⟨Bk, 3, none⟩ = some T := blk_cell' hr0.book.at_ 3
    have hlen := hr0.len
    clear hr0 hr'
    by_cases hlt : i < L.length
    · obtain ⟨g, cap, rfl, hgb, hgl⟩ := hr.out.book.own.form (by omega)
      obtain ⟨e0, e1, e2⟩ := book_entry hr.out.book i (by omega)
      have hrest := hr.out.rest i (Nat.le_refl _) hlt
      rw [hrest] at e0 e1 e2
      obtain ⟨a1, n1, c1, hl1⟩ := HA.out.sl i hlt
      obtain ⟨a2, c2, hv2⟩ := own_slice (hr.out.rows i hlt)
      obtain ⟨N, hN⟩ : ∃ N, (L.getD i zH).n = N := ⟨_, rfl⟩
      rw [hv2] at e0
      rw [hl1] at e1
      rw [hN] at e2
      have HREST := Lib.hid hrest
      have HLEN := Lib.hid hlen
      have HV2 := Lib.hid hv2
      have HN := Lib.hid hN
      have hx := HX.out i hlt
      have hllt : i < L'.length := by omega
      clear hl1 hv2 hN hrest hlen
      have hn100 : N < 100 := by have := HA.out.num i hlt; rw [HN.out] at this; exact this
      have hrow : Hid (wr.ownsRow B0 9 1 (.slice a2 (X i).length c2) (X i).length (strs (X i))) := Lib.hid (by
        have := hr.out.rows i hlt; rw [HV2.out] at this; exact this)
      have hown2 : ∀ b, (Value.slice a2 (X i).length c2).ownBlock = some b → b < Bk := by have := HA.out.low i hlt; rw [HV2.out] at this; exact this
      have HOWN2 := Lib.hid hown2
      clear hown2
      have hBz : Bk < wr.heap.size := blk_lt hr.out.book.at_
      go_wp2
      obtain ⟨W0, hW0⟩ : ∃ W0, wr.alloc (Obj.cells #[Value.slice a2 (X i).length c2, Value.slice a1 n1 c1, Value.int IntKind.i64 (N : Int)] 64) = W0 := ⟨_, rfl⟩
      have HBLK : Hid (W0.heap[wr.heap.size]? = some (.cells #[Value.slice a2 (X i).length c2, Value.slice a1 n1 c1, Value.int IntKind.i64 (N : Int)] 64 (0, 0))) := Lib.hid (by rw [← hW0]; exact World.alloc_heap_new wr _)
      have hrow0 : Hid (W0.ownsRow B0 9 1 (.slice a2 (X i).length c2) (X i).length (strs (X i))) := Lib.hid (by rw [← hW0]; exact hrow.out.alloc _)
      have hg0 : Hid (wr.grownBy W0 none) := Lib.hid (by rw [← hW0]; exact World.grownBy_alloc wr _ none)
      rw [hW0]
      clear hW0 hrow c3 e0 e1 e2
      obtain ⟨wo, rfl⟩ : ∃ wo : World, wo = wr := ⟨_, rfl⟩
      go_loopw [4, 5] (fun uv kv wi => ∃ k : Nat, k ≤ 40 ∧ kv = .int .i64 k ∧ Hid (W0.grownBy wi (Value.slice a2 (X i).length c2).ownBlock ∧ wi.ownsRow B0 9 1 uv ((X i).length + k) (strs (X i ++ List.replicate k (markS N))) ∧ wi.ownsRow B0 9 1 (.slice a2 (X i).length c2) (X i).length (strs (X i)) ∧ (uv.ownBlock = (Value.slice a2 (X i).length c2).ownBlock ∨ ∃ c, uv.ownBlock = some c ∧ W0.heap.size ≤ c))) (fun _ kv _ => 40 - (intOf kv).toNat)
      case atStart => exact ⟨0, Nat.zero_le _, rfl, Lib.hid ⟨World.grownBy.refl _ _, by simpa using hrow0.out, hrow0.out, .inl rfl⟩⟩
      case round =>
        obtain ⟨k, hk, rfl, hi3⟩ := hrel
        have hb1 : wr.heap[wo.heap.size]? = some (.cells #[Value.slice a2 (X i).length c2, Value.slice a1 n1 c1, Value.int IntKind.i64 (N : Int)] 64 (0, 0)) :=
          (hi3.out.1.block _ (blk_lt HBLK.out) (fun e => by have := HOWN2.out _ e.symm; omega)).trans HBLK.out
        have q0 := blk_cell' hb1 0
        have q2 := blk_cell' hb1 2
        simp only [List.getElem?_toArray, List.getElem?_cons_zero, List.getElem?_cons_succ] at q0 q2
        have hzz : wo.heap.size < wr.heap.size := blk_lt hb1
        obtain ⟨ua, uc, hu⟩ := own_slice hi3.out.2.1
        subst hu
        by_cases hkl : k < 40
        · go_wp2_with (first | (go_at_call 60; refine (markText_calls N hn100 _).mono ?_; rintro e w' ⟨rfl, rfl⟩) | (at_builtin; go_loud (refine wpList_append_two _ rfl _ _ 25 rfl B0 9 i0 _ 16 Tryd.underlying25 hi hz0 hz1 hz2 rfl _ ((X i).length + k) _ rfl (hi3.out.2.1.alloc _) ⟨wr.heap.size, 0, none⟩ 1 (.string (markS N)) rfl (Boxed.new wr _ _).cell rfl (by unfold maxLen; omega) (by omega) (by simp; omega) ?_)))
          intro g3 cap3 w3 hown3 hcase
          have hN1 : Hid (W0.grownBy w3 (Value.slice a2 (X i).length c2).ownBlock ∧ w3.ownsRow B0 9 1 (.slice (some ⟨g3, 0, none⟩) ((X i).length + (k + 1)) cap3) ((X i).length + (k + 1)) (strs (X i ++ List.replicate (k + 1) (markS N))) ∧ w3.ownsRow B0 9 1 (.slice a2 (X i).length c2) (X i).length (strs (X i)) ∧ ((Value.slice (some ⟨g3, 0, none⟩) ((X i).length + (k + 1)) cap3).ownBlock = (Value.slice a2 (X i).length c2).ownBlock ∨ ∃ c, (Value.slice (some ⟨g3, 0, none⟩) ((X i).length + (k + 1)) cap3).ownBlock = some c ∧ W0.heap.size ≤ c)) := Lib.hid (by
            obtain ⟨z1, z2, z3, z4⟩ := hi3.out
            have ha := World.grownBy.trans z1 (World.grownBy_alloc wr (Obj.cells #[Value.string (markS N)] 9) _)
            have e : strs (X i) ++ (strs (List.replicate k (markS N)) ++ [Value.string (markS N)]) = strs (X i ++ List.replicate (k + 1) (markS N)) := by
              rw [strs_append, List.replicate_succ', strs_append]; rfl
            rw [strs_append, List.append_assoc, e] at hown3
            have hv := short_after (z3.alloc (Obj.cells #[Value.string (markS N)] 9)) (z2.alloc (Obj.cells #[Value.string (markS N)] 9)) (by rw [strs_append]; exact List.prefix_append _ _) (by rw [strs_append, strs_append, List.replicate_succ', strs_append, ← List.append_assoc]; exact List.prefix_append _ _) hown3 (by omega) hcase
            refine ⟨?_, hown3, hv, ?_⟩
            · rcases hcase with ⟨h1, h2⟩ | ⟨h1, h2⟩
              · refine grown_more ha h2 ?_
                rcases z4 with h | ⟨c, h, hc⟩
                · rw [h1] at h; exact .inl h
                · rw [h1] at h; right; simp [Value.ownBlock] at h; omega
              · exact World.grownBy.trans ha (grown_of_below h2 _)
            · rcases hcase with ⟨h1, h2⟩ | ⟨h1, h2⟩
              · rcases z4 with h | ⟨c, h, hc⟩
                · rw [h1] at h; exact .inl h
                · rw [h1] at h; exact .inr ⟨c, h, hc⟩
              · right
                refine ⟨g3, rfl, ?_⟩
                have := z1.size
                rw [h1]; simp; omega)
          clear hown3 hcase hi3 q0 q2 hb1
          go_wp2
          go_roundw
          case rel => exact ⟨k + 1, by omega, by go_num, hN1⟩
          case measure => simp [intOf]; omega
        · obtain rfl : k = 40 := by omega
          obtain ⟨gu, cu, hu, _, _⟩ := hi3.out.2.1.form (by omega)
          injection hu with hu _ hu2
          subst hu hu2
          have hg1 : Hid (wo.grownBy wr (L.getD i zH).v.ownBlock) := Lib.hid (by rw [HV2.out]; exact World.grownBy.trans (hg0.out.weak _) hi3.out.1)
          have hlow : Hid (∀ b, (L.getD i zH).v.ownBlock = some b → b < Bk) := Lib.hid (HA.out.low i hlt)
          have hb2 : Hid (Book Bk (.slice (some ⟨g, 0, none⟩) L'.length cap) m L' wr) := Lib.hid (book_keeps hr.out.book hg1.out hlow.out)
          have hinv : Hid (GrowInv B0 Bk m (.slice (some ⟨g, 0, none⟩) L'.length cap) L X w i L' wr) := Lib.hid ⟨HLEN.out, hr.out.same, hr.out.rest, hb2.out,
            rows_of_one (X' := X) HA.out hr.out.rows i hlt hg1.out (by rw [HV2.out]; exact hi3.out.2.2.1) (fun _ _ => rfl),
            fun j hj => long_keeps HA.out (by omega) hlt (by omega) (hr.out.longs j hj) hg1.out,
            hr.out.low.grown hg1.out (by omega) (fun b h => own_base (hr.out.rows i hlt) b h)⟩
          have hlong : Hid (LongOK B0 Bk L X (.slice (some ⟨gu, 0, none⟩) ((X i).length + 40) uc) i wr) := Lib.hid ⟨by rw [HN.out]; exact hi3.out.2.1, by
            rcases hi3.out.2.2.2 with h | ⟨c, h, hc⟩
            · left; rw [HV2.out]; exact h
            · right; exact ⟨c, h, by have := hg0.out.size; omega⟩⟩
          have hfin := Lib.hid (grow_store HA.out hlt hinv.out hlong.out h0)
          have c3 : wr.cell? ⟨Bk, 3, none⟩ = some (.slice (some ⟨g, 0, none⟩) L'.length cap) := blk_cell' hb2.out.at_ 3
          obtain ⟨_, e1, _⟩ := book_entry hb2.out i hllt
          have f1 : wr.frozen? ⟨g, i * 3 + 1, none⟩ = false := hb2.out.own.frozenAt _
          clear q0 q2 hb1
          go_wp2
          go_roundw
          case rel => exact ⟨i + 1, by omega, by go_num, Lib.hid ⟨_, hfin.out⟩⟩
          case measure => simp [intOf]; omega
    · obtain rfl : i = L.length := by omega
      obtain ⟨aT, cT, hT⟩ := own_slice hr.out.book.own
      subst hT
      go_wp2
      go_end0
      exact ⟨rfl, L', hr.out⟩
end Go.Proofs.YtlicjpbmlmongaaDoor.H

end
section
/- The book of lists: all marks stand where they were written. -/
set_option linter.unusedVariables false
set_option linter.unusedSimpArgs false
namespace Go.Proofs.YtlicjpbmlmongaaDoor.H
open Go.RowKit Go.Proofs.YtlicjpbmlmongaaDoorW.PrintWords Go.Proofs

theorem isText_same (n : Nat) (h : n < 100) (w : World) : Calls Tryd.prog 72 #[.string (markS n), .int .i64 n] w fun e w' => e = .returned (.bool true) ∧ w' = w := (isText_calls n h w).mono fun e w' ⟨a, b⟩ => ⟨a, b.symm⟩
def LookOK (B0 : Nat) (h : Held) (w : World) : Prop := ∃ n : Nat, n ≤ 8796093022000 ∧ h.n < 100 ∧ w.ownsRow B0 9 1 h.v n (strs (List.replicate n (markS h.n))) ∧ w.ownsRow B0 9 1 h.long (n + 40) (strs (List.replicate (n + 40) (markS h.n)))
theorem rep_at (n k : Nat) (m : ByteArray) (h : k < n) : (strs (List.replicate n m))[k]? = some (.string m) := by simp [strs, h]
theorem book_below {Bk m : Nat} {T : Value} {L : List Held} {W W1 : World} (h : Book Bk T m L W) (hb : Below W.heap.size W W1) : Book Bk T m L W1 := ⟨(hb.block _ (blk_lt h.at_)).trans h.at_, pw_own_below h.own hb⟩

set_option maxHeartbeats 4000000 in
set_option maxRecDepth 100000 in
theorem lookText_calls (B0 Bk : Nat) (T : Value) (m : Nat) (L : List Held) (w : World) (hB : Book Bk T m L w) (hL : L.length ≤ 1000) (hK : ∀ i, i < L.length → LookOK B0 (L.getD i zH) w) :
    Calls Tryd.prog 45 #[.pointer (some ⟨Bk, 0, none⟩)] w fun e w' => e = .returned (.bool true) ∧ Below w.heap.size w w' := by
  have HB := Lib.hid hB
  have HK := Lib.hid hK
  clear hB hK
  go_enter Tryd.func45, Tryd.ntmps45
  go_wp2
  go_loopw [3] (fun i wr => ∃ k : Nat, k ≤ L.length ∧ i = .int .i64 k ∧ Hid (Below w.heap.size w wr)) (fun i _ => L.length - (intOf i).toNat)
  case atStart => exact ⟨0, Nat.zero_le _, rfl, Lib.hid (Below.refl _ _)⟩
  case round =>
    obtain ⟨i, hi, rfl, hr⟩ := hrel
    have hbk := Lib.hid (book_below HB.out hr.out)
    have c3 : wr.cell? ⟨Bk, 3, none⟩ = some T := blk_cell' hbk.out.at_ 3
    by_cases hlt : i < L.length
    · obtain ⟨g, cap, rfl, hgb, hgl⟩ := HB.out.own.form (by omega)
      obtain ⟨e0, e1, e2⟩ := book_entry hbk.out i hlt
      obtain ⟨n, hn, hN, ho1, ho2⟩ := HK.out i hlt
      obtain ⟨a1, c1, h1⟩ := own_slice ho1
      obtain ⟨a2, c2, h2⟩ := own_slice ho2
      obtain ⟨V, hV⟩ : ∃ V, L.getD i zH = V := ⟨_, rfl⟩
      rw [hV] at e0 e1 e2 ho1 ho2 h1 h2 hN
      obtain ⟨v, lg, N⟩ := V
      simp only at e0 e1 e2 ho1 ho2 h1 h2 hN
      subst h1 h2
      have HO1 := Lib.hid (pw_own_below ho1 hr.out)
      have HO2 := Lib.hid (pw_own_below ho2 hr.out)
      clear hV ho1 ho2
      go_wp2
      obtain ⟨W0, hW0⟩ : ∃ W0, wr.alloc (Obj.cells #[Value.slice a1 n c1, Value.slice a2 (n + 40) c2, Value.int IntKind.i64 (N : Int)] 64) = W0 := ⟨_, rfl⟩
      have HBLK : Hid (W0.heap[wr.heap.size]? = some (.cells #[Value.slice a1 n c1, Value.slice a2 (n + 40) c2, Value.int IntKind.i64 (N : Int)] 64 (0, 0))) := Lib.hid (by rw [← hW0]; exact World.alloc_heap_new wr _)
      have hb0 : Hid (Below wr.heap.size wr W0) := Lib.hid (by rw [← hW0]; exact bal (Below.refl _ _) _)
      rw [hW0]
      clear hW0 c3 e0 e1 e2
      obtain ⟨wo, rfl⟩ : ∃ wo : World, wo = wr := ⟨_, rfl⟩
      go_loopw [5] (fun kv wi => ∃ k : Nat, k ≤ n + 40 ∧ kv = .int .i64 k ∧ Hid (Below W0.heap.size W0 wi)) (fun kv _ => n + 40 - (intOf kv).toNat)
      case atStart => exact ⟨0, Nat.zero_le _, rfl, Lib.hid (Below.refl _ _)⟩
      case round =>
        obtain ⟨k, hk, rfl, hi3⟩ := hrel
        have hb1 := (hi3.out.block _ (blk_lt HBLK.out)).trans HBLK.out
        have q0 := blk_cell' hb1 0
        have q1 := blk_cell' hb1 1
        have q2 := blk_cell' hb1 2
        simp only [List.getElem?_toArray, List.getElem?_cons_zero, List.getElem?_cons_succ] at q0 q1 q2
        have hbw := bth hb0.out hi3.out
        by_cases hkl : k < n + 40
        · obtain ⟨g2, cap2, hv2, _, _⟩ := HO2.out.form (by omega)
          injection hv2 with hv2 _ hv3
          subst hv2 hv3
          have y2 : wr.cell? ⟨g2, k, none⟩ = some (.string (markS N)) := pw_cell_below hbw ((HO2.out.cellAt k (by omega)).trans (rep_at _ _ _ hkl))
          by_cases hkn : k < n
          · obtain ⟨g1, cap1, hv1, _, _⟩ := HO1.out.form (by omega)
            injection hv1 with hv1 _ hv3
            subst hv1 hv3
            have y1 : wr.cell? ⟨g1, k, none⟩ = some (.string (markS N)) := pw_cell_below hbw ((HO1.out.cellAt k (by omega)).trans (rep_at _ _ _ hkn))
            go_wp2
            go_quiet ((go_at_call 72; exact Calls.quiet_of_same (isText_same N hN _)))
            go_wp2
            go_roundw
            case rel => exact ⟨k + 1, by omega, by go_num, Lib.hid (bdn hi3.out _)⟩
            case measure => simp [intOf]; omega
          · have hd1 : decide (k < n) = false := by simpa using hkn
            have hd2 : decide ((k : Int) < (n : Int)) = false := by simpa using hkn
            go_wp2
            go_quiet ((go_at_call 72; exact Calls.quiet_of_same (isText_same N hN _)))
            go_wp2
            go_roundw
            case rel => exact ⟨k + 1, by omega, by go_num, Lib.hid (bdn hi3.out _)⟩
            case measure => simp [intOf]; omega
        · obtain rfl : k = n + 40 := by omega
          go_wp2
          go_roundw
          case rel => exact ⟨i + 1, by omega, by go_num, Lib.hid (bth (bth hr.out hb0.out) hi3.out)⟩
          case measure => simp [intOf]; omega
    · obtain rfl : i = L.length := by omega
      obtain ⟨aT, cT, hT⟩ := own_slice HB.out.own
      subst hT
      go_wp2
      go_ret
      exact ⟨rfl, hr.out⟩
end Go.Proofs.YtlicjpbmlmongaaDoor.H

end
