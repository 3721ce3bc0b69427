/- What chapter 8's walks ask of the world beside their arguments: one entry of a table of the library. -/
import Derived.Test.YthkaekeelokajaaDoorVFmt
import Derived.Lib.LaidU8
import Derived.Lib.LaidTab
import Derived.Lib.TrailingZeros
import Derived.ChangeAgain
set_option linter.unusedVariables false
namespace Go.Proofs.YthkaekeelokajaaDoor.C
open Go.RowKit Go Go.Proofs.YthkaekeelokajaaDoor.H

theorem TzW.below {w w' : World} (h : TzW w) (hb : Below w.heap.size w w') : TzW w' := (hb.cell (block_lt_of_cell h)).trans h
theorem tab_of_reads {P : Program} {W : World} {name : String} {k : IntKind} {zs : List Int} {g : Nat} {t e : TypeId} {n : Nat}
    (hg : P.globalNamed name = some g) (hty : (P.globals[g]?).map (·.type) = some t) (ht : P.underlying t = some (.array n e)) (he : P.underlying e = some (.int k)) (hce : P.cellsOf e = 1) (hct : P.cellsOf t = n)
    (h : Lib.VarReads P W name (Lib.tabData k zs)) : Lib.TabIs P W name k zs := by
  obtain ⟨g', t', cs, fuel, p, hg', ht', hvar, hd⟩ := h
  obtain rfl := Option.some.inj (hg.symm.trans hg')
  obtain rfl := Option.some.inj (hty.symm.trans ht')
  unfold Lib.TabIs
  rw [hvar, ← Lib.cells_of_tab ht he hce hct hd]
theorem tzW_of {W : World} {l : List (String × DataW Unit)} (hL : laidMet Tryd.prog l W) (i : Nat) (h1 : l[i]? = some ("math/bits.deBruijn64tab", Lib.tabData .u8 (List.map (fun n : Nat => (n : Int)) Lib.deBruijn64tab))) : TzW W := by
  have h := tab_of_reads (g := 3) (by kernel_rfl) (by kernel_rfl) Tryd.underlying218 Tryd.underlying5 (by kernel_rfl) (by kernel_rfl) (Lib.laidMet.reads hL (List.mem_of_getElem? h1))
  have := h.cell (g := 3) (by kernel_rfl) 7 (by decide)
  exact this
end Go.Proofs.YthkaekeelokajaaDoor.C
