/- The walks of PermsEach, PermsMore and PermsClass: each returns true, whoever somebody is and whatever the node. -/
import Derived.Test.YtkgppbdelggncaaPure
import Derived.Test.YtkgppbdelggncaaOpen
set_option linter.unusedVariables false
namespace Go.Proofs.Ytkgppbdelggncaa.Q
open Go.RowKit Go.Proofs.YtkgppbdelggncaaW.PrintWords Go.Proofs.Ytkgppbdelggncaa.Open

theorem PermsEach_walk (a0_0 : Int) (a0_1 : Int) (a0_2 : Int) (a0_3 : Int) (a0_4 : Int) (a0_5_0 : Int) (a0_5_1 : Int) (a0_5_2 : Int) (a0_5_3 : Int) (W : World) (ok0_0 : (Lit.int .u8 a0_0).wf = true) (ok0_1 : (Lit.int .u16 a0_1).wf = true) (ok0_2 : (Lit.int .u16 a0_2).wf = true) (ok0_3 : (Lit.int .u16 a0_3).wf = true) (ok0_4 : (Lit.int .u16 a0_4).wf = true) (ok0_5_0 : (Lit.int .i64 a0_5_0).wf = true) (ok0_5_1 : (Lit.int .i64 a0_5_1).wf = true) (ok0_5_2 : (Lit.int .i64 a0_5_2).wf = true) (ok0_5_3 : (Lit.int .i64 a0_5_3).wf = true) :
    Calls Try.prog 4 #[.agg #[.int .u8 a0_0, .int .u16 a0_1, .int .u16 a0_2, .int .u16 a0_3, .int .u16 a0_4, .int .i64 a0_5_0, .int .i64 a0_5_1, .int .i64 a0_5_2, .int .i64 a0_5_3]] W fun e W' => e = .returned (.bool true) ∧ Below W.heap.size W W' := by
  exact toolchestlaw13_PermsEach.calls 60 a0_0 a0_1 a0_2 a0_3 a0_4 a0_5_0 a0_5_1 a0_5_2 a0_5_3 true W (Each_true a0_0 a0_1 a0_2 a0_3 a0_4 a0_5_0 a0_5_1 a0_5_2 a0_5_3 (wf_u8 ok0_0) (wf_u16 ok0_1))

theorem PermsMore_walk (a0_0 : Int) (a0_1 : Int) (a0_2 : Int) (a0_3 : Int) (a0_4 : Int) (a0_5_0 : Int) (a0_5_1 : Int) (a0_5_2 : Int) (a0_5_3 : Int) (W : World) (ok0_0 : (Lit.int .u8 a0_0).wf = true) (ok0_1 : (Lit.int .u16 a0_1).wf = true) (ok0_2 : (Lit.int .u16 a0_2).wf = true) (ok0_3 : (Lit.int .u16 a0_3).wf = true) (ok0_4 : (Lit.int .u16 a0_4).wf = true) (ok0_5_0 : (Lit.int .i64 a0_5_0).wf = true) (ok0_5_1 : (Lit.int .i64 a0_5_1).wf = true) (ok0_5_2 : (Lit.int .i64 a0_5_2).wf = true) (ok0_5_3 : (Lit.int .i64 a0_5_3).wf = true) :
    Calls Try.prog 5 #[.agg #[.int .u8 a0_0, .int .u16 a0_1, .int .u16 a0_2, .int .u16 a0_3, .int .u16 a0_4, .int .i64 a0_5_0, .int .i64 a0_5_1, .int .i64 a0_5_2, .int .i64 a0_5_3]] W fun e W' => e = .returned (.bool true) ∧ Below W.heap.size W W' := by
  exact toolchestlaw13_PermsMore.calls 60 a0_0 a0_1 a0_2 a0_3 a0_4 a0_5_0 a0_5_1 a0_5_2 a0_5_3 true W (More_true a0_0 a0_1 a0_2 a0_3 a0_4 a0_5_0 a0_5_1 a0_5_2 a0_5_3 (wf_u8 ok0_0) (wf_u16 ok0_1) (wf_u16 ok0_2))

theorem PermsClass_walk (a0_0 : Int) (a0_1 : Int) (a0_2 : Int) (a0_3 : Int) (a0_4 : Int) (a0_5_0 : Int) (a0_5_1 : Int) (a0_5_2 : Int) (a0_5_3 : Int) (W : World) (ok0_0 : (Lit.int .u8 a0_0).wf = true) (ok0_1 : (Lit.int .u16 a0_1).wf = true) (ok0_2 : (Lit.int .u16 a0_2).wf = true) (ok0_3 : (Lit.int .u16 a0_3).wf = true) (ok0_4 : (Lit.int .u16 a0_4).wf = true) (ok0_5_0 : (Lit.int .i64 a0_5_0).wf = true) (ok0_5_1 : (Lit.int .i64 a0_5_1).wf = true) (ok0_5_2 : (Lit.int .i64 a0_5_2).wf = true) (ok0_5_3 : (Lit.int .i64 a0_5_3).wf = true) :
    Calls Try.prog 6 #[.agg #[.int .u8 a0_0, .int .u16 a0_1, .int .u16 a0_2, .int .u16 a0_3, .int .u16 a0_4, .int .i64 a0_5_0, .int .i64 a0_5_1, .int .i64 a0_5_2, .int .i64 a0_5_3]] W fun e W' => e = .returned (.bool true) ∧ Below W.heap.size W W' := by
  exact toolchestlaw13_PermsClass.calls 60 a0_0 a0_1 a0_2 a0_3 a0_4 a0_5_0 a0_5_1 a0_5_2 a0_5_3 true W (Class_true a0_0 a0_1 a0_2 a0_3 a0_4 a0_5_0 a0_5_1 a0_5_2 a0_5_3 (wf_u8 ok0_0) (wf_u16 ok0_1))

end Go.Proofs.Ytkgppbdelggncaa.Q
