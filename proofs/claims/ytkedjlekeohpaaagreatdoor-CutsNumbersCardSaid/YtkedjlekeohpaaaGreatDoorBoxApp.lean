/- A variable's box that holds a list which the call itself made; an append to it. -/
import Derived.Test.YtkedjlekeohpaaaGreatDoorHelp
import Derived.RangeFuncBox
set_option linter.unusedVariables false
set_option linter.unusedSimpArgs false
namespace Go.Proofs.YtkedjlekeohpaaaGreatDoor.B
end Go.Proofs.YtkedjlekeohpaaaGreatDoor.B
namespace Go.Proofs.YtkedjlekeohpaaaGreatDoor.H
open Go.RowKit Go Go.Proofs.YtkedjlekeohpaaaGreatDoor.B

/-- What an append and the store back leave, the row's blocks lying from nr on. -/
theorem box_app {W w1 : World} {n₀ nr B : Nat} {t e : TypeId} {size : Nat} {v v' : Value} {k m : Nat} {xs ys : List Value} {tmp : Obj}
    (hv : Boxed W B t v) (hte : t ≠ e) (hrow : W.ownsRow nr e size v k xs) (hn₀ : n₀ ≤ W.heap.size) (hB : n₀ ≤ B) (hn : n₀ ≤ nr)
    (hown' : w1.ownsRow nr e size v' m ys) (hgrow : (W.alloc tmp).grownBy w1 v.ownBlock) :
    Boxed w1 B t v ∧ Boxed (w1.setCell ⟨B, 0, none⟩ v') B t v' ∧ (w1.setCell ⟨B, 0, none⟩ v').ownsRow nr e size v' m ys ∧ KeepsOthers W (w1.setCell ⟨B, 0, none⟩ v') ∧ Below n₀ W (w1.setCell ⟨B, 0, none⟩ v') ∧
      ∀ j, j < nr → j ≠ B → j < W.heap.size → (w1.setCell ⟨B, 0, none⟩ v').heap[j]? = W.heap[j]? := by
  have hv1 : Boxed w1 B t v := (hv.alloc tmp).kept hgrow (hv.not_row hte hrow)
  have hbase : ∀ j, v.ownBlock = some j → nr ≤ j := fun j ej => by
    rcases hrow.2 with ⟨rfl, _⟩ | ⟨g, cap, cur, rfl, hb, _, _⟩
    · simp [Value.ownBlock] at ej
    · obtain rfl : g = j := by simpa [Value.ownBlock] using ej
      exact hb
  refine ⟨hv1, hv1.set v', hown'.kept (grownBy_setCell' w1 B v') (.inr (hv1.not_row hte hown').symm), ?_, ?_, ?_⟩
  · refine ((KeepsOthers.alloc W tmp).trans (KeepsOthers.of_grownBy hgrow fun j o ej hj => ?_)).trans (KeepsOthers.setCell _ _ _)
    rcases (hrow.alloc tmp).2 with ⟨rfl, _⟩ | ⟨g, cap, cur, rfl, _, hgb, _⟩
    · simp [Value.ownBlock] at ej
    · obtain rfl : g = j := by simpa [Value.ownBlock] using ej
      rw [hgb] at hj; cases hj; rfl
  · exact (((Below.refl n₀ W).alloc hn₀ tmp).grown hgrow (by simp; omega) fun j ej => Nat.le_trans hn (hbase j ej)).setCell (p := ⟨B, 0, none⟩) hB v'
  · intro j h1 h2 h3
    rw [Below.heap_setCell w1 ⟨B, 0, none⟩ v' j h2, hgrow.block j (by simp; omega) (fun e' => by have := hbase j e'.symm; omega)]
    exact (World.grownBy_alloc W tmp none).block j h3 (by simp)

/-- The box Bo holds a list of texts, its row from block N on. -/
def OAt (N Bo : Nat) (bs : List Value) (w : World) : Prop := ∃ v, Boxed w Bo 22 v ∧ w.ownsRow N 9 1 v bs.length bs
theorem OAt.on {N b : Nat} {bs : List Value} {w w' : World} (h : OAt N b bs w) (hb : Below w.heap.size w w') : OAt N b bs w' := by
  obtain ⟨v, hk, ho⟩ := h
  exact ⟨v, (hb.block b hk.lt).trans hk, Go.Proofs.YtkedjlekeohpaaaGreatDoorW.PrintWords.pw_own_below ho hb⟩
theorem OAt.far {N Bo b : Nat} {bs : List Value} {w : World} {t : TypeId} {u : Value} (h : OAt N Bo bs w) (hb : b ≠ Bo) (hk : Boxed w b t u) (ht : t ≠ 9) (x : Value) : OAt N Bo bs (w.setCell ⟨b, 0, none⟩ x) := by
  obtain ⟨v, hv, ho⟩ := h
  exact ⟨v, hv.kept (grownBy_setCell' w b x) (by intro e; injection e with e; exact hb e.symm), ho.kept (grownBy_setCell' w b x) (.inr (hk.not_row ht ho).symm)⟩
end Go.Proofs.YtkedjlekeohpaaaGreatDoor.H
