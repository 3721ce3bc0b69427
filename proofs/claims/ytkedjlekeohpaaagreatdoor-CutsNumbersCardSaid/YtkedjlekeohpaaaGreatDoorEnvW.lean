/- What the walks ask of the world beside their arguments: its shape, and the library's tables as they are laid. -/
import Derived.Test.YtkedjlekeohpaaaGreatDoorShelf
import Derived.Test.YtkedjlekeohpaaaGreatDoorHelp
import Derived.Shelf.Unicode.PredsPay
import Derived.Lib.LaidU8
import Derived.ChangeAgain
set_option linter.unusedVariables false
namespace Go.Proofs.YtkedjlekeohpaaaGreatDoor.H
open Go.RowKit Go

structure EnvW (w : World) : Prop where
  shape : w.ShapedOpen Tryz.prog
  pow : Lib.TabIs Tryz.prog w "internal/strconv.uint64pow10" .u64 Lib.pow10Tab
  utf : Lib.Utf8Tabs 2 3 w
theorem EnvW.below {w w' : World} (h : EnvW w) (hb : Below w.heap.size w w') : EnvW w' :=
  ⟨h.shape.keptBut (hb.frame (fun _ => False)) (fun _ hp => hp.elim), TabIs_below (g := 0) (by kernel_rfl) h.pow hb, Utf8Tabs_below h.utf hb⟩
theorem tab_of_reads {P : Program} {W : World} {name : String} {k : IntKind} {zs : List Int} {g : Nat} {t e : TypeId} {n : Nat}
    (hg : P.globalNamed name = some g) (hty : (P.globals[g]?).map (·.type) = some t) (ht : P.underlying t = some (.array n e)) (he : P.underlying e = some (.int k)) (hce : P.cellsOf e = 1) (hct : P.cellsOf t = n)
    (h : Lib.VarReads P W name (Lib.tabData k zs)) : Lib.TabIs P W name k zs := by
  obtain ⟨g', t', cs, fuel, p, hg', ht', hvar, hd⟩ := h
  obtain rfl := Option.some.inj (hg.symm.trans hg')
  obtain rfl := Option.some.inj (hty.symm.trans ht')
  unfold Lib.TabIs
  rw [hvar, ← Lib.cells_of_tab ht he hce hct hd]
theorem powW_of {W : World} {l : List (String × DataW Unit)} (hL : laidMet Tryz.prog l W) (i : Nat) (h1 : l[i]? = some ("internal/strconv.uint64pow10", Lib.tabData .u64 Lib.pow10Tab)) : Lib.TabIs Tryz.prog W "internal/strconv.uint64pow10" .u64 Lib.pow10Tab :=
  tab_of_reads (g := 0) (by kernel_rfl) (by kernel_rfl) Tryz.underlying175 Tryz.underlying152 (by kernel_rfl) (by kernel_rfl) (Lib.laidMet.reads hL (List.mem_of_getElem? h1))
theorem envW_of {W : World} {l : List (String × DataW Unit)} (hSH : W.ShapedOpen Tryz.prog) (hL : laidMet Tryz.prog l W) (i j k : Nat)
    (h1 : l[i]? = some ("internal/strconv.uint64pow10", Lib.tabData .u64 Lib.pow10Tab)) (h2 : l[j]? = some ("unicode/utf8.first", Lib.firstData)) (h3 : l[k]? = some ("unicode/utf8.acceptRanges", Lib.acceptData)) : EnvW W :=
  ⟨hSH, tab_of_reads (g := 0) (by kernel_rfl) (by kernel_rfl) Tryz.underlying175 Tryz.underlying152 (by kernel_rfl) (by kernel_rfl) (Lib.laidMet.reads hL (List.mem_of_getElem? h1)),
    utf8Tabs_of_reads (ρ := Tryz.lays260_ren) { Tryz.lays260 with } ⟨by kernel_rfl, by kernel_rfl, by kernel_rfl, by kernel_rfl, by kernel_rfl, by kernel_rfl, by kernel_rfl⟩ (Lib.laidMet.reads hL (List.mem_of_getElem? h2)) (Lib.laidMet.reads hL (List.mem_of_getElem? h3))⟩
end Go.Proofs.YtkedjlekeohpaaaGreatDoor.H
