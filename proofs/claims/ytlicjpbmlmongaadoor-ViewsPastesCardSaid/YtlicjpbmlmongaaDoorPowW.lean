/- The library's table of powers of ten, as it is laid. -/
import Derived.Test.YtlicjpbmlmongaaDoorShelf
import Derived.Test.YtlicjpbmlmongaaDoorHelp
import Derived.Lib.LaidU8
import Derived.ChangeAgain
set_option linter.unusedVariables false
namespace Go.Proofs.YtlicjpbmlmongaaDoor.H
open Go.RowKit Go

theorem tab_of_reads {P : Program} {W : World} {name : String} {k : IntKind} {zs : List Int} {g : Nat} {t e : TypeId} {n : Nat}
    (hg : P.globalNamed name = some g) (hty : (P.globals[g]?).map (·.type) = some t) (ht : P.underlying t = some (.array n e)) (he : P.underlying e = some (.int k)) (hce : P.cellsOf e = 1) (hct : P.cellsOf t = n)
    (h : Lib.VarReads P W name (Lib.tabData k zs)) : Lib.TabIs P W name k zs := by
  obtain ⟨g', t', cs, fuel, p, hg', ht', hvar, hd⟩ := h
  obtain rfl := Option.some.inj (hg.symm.trans hg')
  obtain rfl := Option.some.inj (hty.symm.trans ht')
  unfold Lib.TabIs
  rw [hvar, ← Lib.cells_of_tab ht he hce hct hd]
theorem powW_of {W : World} {l : List (String × DataW Unit)} (hL : laidMet Tryd.prog l W) (i : Nat) (h1 : l[i]? = some ("internal/strconv.uint64pow10", Lib.tabData .u64 Lib.pow10Tab)) : Lib.TabIs Tryd.prog W "internal/strconv.uint64pow10" .u64 Lib.pow10Tab :=
  tab_of_reads (g := 0) (by kernel_rfl) (by kernel_rfl) Tryd.underlying147 Tryd.underlying141 (by kernel_rfl) (by kernel_rfl) (Lib.laidMet.reads hL (List.mem_of_getElem? h1))
end Go.Proofs.YtlicjpbmlmongaaDoor.H
