/- Lists of texts that the call itself made, each in a block of its own: what is written into one, and put behind one, leaves the others. -/
import Derived.Test.YtlicjpbmlmongaaGreatDoorHelp
import Derived.Laws.OwnMore
set_option linter.unusedVariables false
set_option linter.unusedSimpArgs false
namespace Go.Proofs.YtlicjpbmlmongaaGreatDoor.H
open Go.RowKit Go.Proofs.YtlicjpbmlmongaaGreatDoorW.PrintWords

/-- A shorter slice of the same row. -/
theorem own_short {w : World} {base e g cap m : Nat} {xs : List Value} (h : w.ownsRow base e 1 (.slice (some ⟨g, 0, none⟩) m cap) m xs) (n : Nat) (hn : n ≤ m) :
    w.ownsRow base e 1 (.slice (some ⟨g, 0, none⟩) n cap) n (xs.take n) := by
  have hl := h.1
  rcases h.2 with ⟨h', _⟩ | ⟨g', cap', cur, h', hb, hg, hnc, hcm, hcs, htake⟩
  · cases h'
  · simp only [Value.slice.injEq, Option.some.injEq, Addr.mk.injEq, and_true, true_and] at h'
    obtain ⟨rfl, rfl⟩ := h'
    refine ⟨by rw [List.length_take]; omega, .inr ⟨g, cap, cur, rfl, hb, hg, by omega, hcm, hcs, ?_⟩⟩
    rw [← htake, List.take_take]
    congr 1
    omega
/-- Two rows in one block have one capacity. -/
theorem own_cap {w : World} {base base' e g cap cap' n m : Nat} {xs ys : List Value} (h : w.ownsRow base e 1 (.slice (some ⟨g, 0, none⟩) n cap) n xs) (k : w.ownsRow base' e 1 (.slice (some ⟨g, 0, none⟩) m cap') m ys) : cap = cap' := by
  rcases h.2 with ⟨h', _⟩ | ⟨g1, cap1, cur1, h1, _, hg1, _, _, hc1, _⟩
  · cases h'
  rcases k.2 with ⟨h', _⟩ | ⟨g2, cap2, cur2, h2, _, hg2, _, _, hc2, _⟩
  · cases h'
  simp only [Value.slice.injEq, Option.some.injEq, Addr.mk.injEq, and_true, true_and] at h1 h2
  obtain ⟨rfl, rfl⟩ := h1
  obtain ⟨rfl, rfl⟩ := h2
  rw [hg1] at hg2
  injection hg2 with hg2
  injection hg2 with hg2
  subst hg2
  omega

/-- Where an append of one element has put the row. -/
def AppCase (w w' : World) (v : Value) (n g cap : Nat) : Prop := (v = .slice (some ⟨g, 0, none⟩) n cap ∧ w.grownBy w' (some g)) ∨ (g = w.heap.size ∧ Below w.heap.size w w')
section
variable {P : Program} (w : World)
/-- append of one element onto a row of the call's own: in place, or in a new block, and then the old one lies as it lay. -/
theorem run_append_two (base : Nat) (t ty e : TypeId) (i : TypeInfo) (z : Value) (bytes : Nat) (ht : P.underlying t = some (.slice e)) (hi : P.info? e = some i) (hz : i.zero = some z)
    (hsize : i.size = 1) (hby : i.bytes = bytes) (hzs : z.cells.size = 1)
    (v : Value) (n : Nat) (xs : List Value) (hown : w.ownsRow base e 1 v n xs)
    (a : Addr) (c : Nat) (x : Value) (hnews : w.cell? a = some x) (h1 : x.oneCell' = true)
    (h63 : n + 1 ≤ maxLen) (hbytes : (n + 1) * bytes ≤ 140737488355328) (hbase : base ≤ w.heap.size) :
    ∃ g cap w', (Builtin.append_ #[t, t] ty #[v, .slice (some a) 1 c]).run P w = .ok (.slice (some ⟨g, 0, none⟩) (n + 1) cap) w' ∧ w'.ownsRow base e 1 (.slice (some ⟨g, 0, none⟩) (n + 1) cap) (n + 1) (xs ++ [x]) ∧
      ((v = .slice (some ⟨g, 0, none⟩) n cap ∧ w.grownBy w' (some g)) ∨ (g = w.heap.size ∧ Below w.heap.size w w')) := by
  have hl : ([x] : List Value).length = 1 * 1 := rfl
  have hn2 : ∀ j u, ([x] : List Value)[j]? = some u → w.cell? (a.add j) = some u := by
    intro j u hj
    match j, hj with
    | 0, hj => simp at hj; subst hj; rw [show a.add 0 = a by unfold Addr.add; split <;> simp_all]; exact hnews
  have h1' : ∀ u ∈ ([x] : List Value), u.oneCell' = true := fun u hu => by simp at hu; subst hu; exact h1
  rcases hown.2 with ⟨rfl, rfl⟩ | ⟨g, cap, cur, rfl, hbg, hg, hnc, hcm, hcs, htake⟩
  · obtain ⟨g, cap, w', hr, h2, h3, h4, _⟩ := run_append_lies (P := P) w t ty base e i z 1 bytes ht hi hz hsize hby hzs (by omega) _ 0 xs hown a 1 c [x] hl hn2 h1' (by omega) h63 hbytes hbase w.heap.size rfl
    refine ⟨g, cap, w', hr, h2, .inr ⟨?_, ?_⟩⟩
    · rcases h4 with h4 | h4
      · simp [Value.ownBlock] at h4
      · exact h4
    · exact ⟨h3.os, h3.tape, h3.output, h3.size, fun k hk => h3.block k hk (by simp [Value.ownBlock])⟩
  · by_cases hroom : n + 1 ≤ cap
    · obtain ⟨w', hr, h2, h3⟩ := run_append_fits (P := P) w base t ty e i 1 ht hi hsize g n cap xs hown a 1 c [x] hl hn2 h1' hroom
      exact ⟨g, cap, w', hr, h2, .inl ⟨rfl, h3⟩⟩
    · have hsmall : n + 1 ≤ 9223372036854775807 := by simp only [maxLen] at h63; omega
      have holds : ∀ j u, xs[j]? = some u → w.cell? ((⟨g, 0, none⟩ : Addr).add j) = some u := hown.cells (g := g) rfl
      subst hby
      have hr := run_append_grow (P := P) w t ty e i z ht hi hz ⟨g, 0, none⟩ n cap xs (by rw [hsize]; exact hown.1) holds a 1 c [x] (by rw [hsize]; rfl) hn2 (by omega) (by omega) (growslice_fits (by omega) hbytes)
      have hge := grownCap_ge w (n + 1) cap e
      have hcm2 : grownCap w (n + 1) cap e ≤ maxLen := grownCap_le_maxLen w (n + 1) cap e h63
      have hlen : (xs ++ [x]).length = (n + 1) * 1 := by rw [List.length_append, hown.1]; simp
      refine ⟨_, _, _, hr, ⟨hlen, .inr ⟨w.heap.size, _, _, rfl, hbase, heap_alloc_new w.drew _, hge, hcm2, ?_, ?_⟩⟩, .inr ⟨rfl, ?_⟩⟩
      · simp only [Array.size_append, List.size_toArray, size_zeroCells, hzs, hown.1, List.length_cons, List.length_nil]
        omega
      · simp only [Array.toList_append, List.append_assoc]
        rw [← List.append_assoc, ← hlen]
        exact List.take_left
      · exact bal (bdr (Below.refl _ _)) _

theorem wpList_append_two {ops : Array Oper} {rest : List Oper} {o : Oper} {a : Act} {Q : Exit → Act → World → Prop} (hgd : o.guard = none) (s x : Operand) (t : TypeId)
    (ho : o.op = .call { callee := .builtin .append, args := #[s, x], argTypes := #[t, t] })
    (base : Nat) (e : TypeId) (i : TypeInfo) (z : Value) (bytes : Nat) (ht : P.underlying t = some (.slice e)) (hi : P.info? e = some i) (hz : i.zero = some z)
    (hsize : i.size = 1) (hby : i.bytes = bytes) (hzs : z.cells.size = 1)
    (v : Value) (n : Nat) (xs : List Value) (hs : a.eval s = v) (hown : w.ownsRow base e 1 v n xs)
    (ad : Addr) (c : Nat) (y : Value) (hx : a.eval x = .slice (some ad) 1 c) (hnews : w.cell? ad = some y) (h1 : y.oneCell' = true)
    (h63 : n + 1 ≤ maxLen) (hbytes : (n + 1) * bytes ≤ 140737488355328) (hbase : base ≤ w.heap.size)
    (h : ∀ g cap w', w'.ownsRow base e 1 (.slice (some ⟨g, 0, none⟩) (n + 1) cap) (n + 1) (xs ++ [y]) → AppCase w w' v n g cap → wpList P ops Q rest (a.put o.dst (.slice (some ⟨g, 0, none⟩) (n + 1) cap)) w') :
    wpList P ops Q (o :: rest) a w := by
  refine wpList_plain hgd fun K hK => ?_
  obtain ⟨g, cap, w', hr, h2, h3⟩ := run_append_two (P := P) w base t o.type e i z bytes ht hi hz hsize hby hzs v n xs hown ad c y hnews h1 h63 hbytes hbase
  unfold Oper.wp execOp
  simp only [ho, resolve, invoke, builtin, Sem.run_bind, Sem.run_pure, Result.andThen_ok, List.map_toArray, List.map_cons, List.map_nil, hs, hx, hr]
  exact hK _ _ (h g cap w' h2 h3)
end

/-- What an append left of the row that it was put behind. -/
theorem short_after {W w1 : World} {base e m n : Nat} {g cap : Nat} {v u : Value} {xs ys : List Value} (hv : W.ownsRow base e 1 v n xs) (hu : W.ownsRow base e 1 u m ys) (hp : xs <+: ys) {z : List Value} (hz : ys <+: z)
    (h1 : w1.ownsRow base e 1 (.slice (some ⟨g, 0, none⟩) (m + 1) cap) (m + 1) z) (hnm : n ≤ m)
    (h : AppCase W w1 u m g cap) : w1.ownsRow base e 1 v n xs := by
  rcases h with ⟨rfl, hg⟩ | ⟨_, hb⟩
  · rcases hv.2 with ⟨rfl, rfl⟩ | ⟨g', cap', cur, rfl, _⟩
    · have : xs = [] := List.eq_nil_of_length_eq_zero (by simpa using hv.1)
      subst this
      exact World.ownsRow_nil _ _ _ _
    · by_cases he : g' = g
      · subst he
        obtain rfl := own_cap hv hu
        have := own_short h1 n (by omega)
        have e1 : z.take n = xs := by
          obtain ⟨a, ha⟩ := hp.trans hz
          rw [← ha, List.take_left' (by have := hv.1; omega)]
        rwa [e1] at this
      · exact own_other hv hg (.inr (by simp [Value.ownBlock, he]))
  · exact pw_own_below hv hb
end Go.Proofs.YtlicjpbmlmongaaGreatDoor.H
