/- KeysCompares. -/
import Derived.Test.YtbndinaiclkajaaDoorQx16
import Derived.Test.YtbndinaiclkajaaDoorKRefKey
import Derived.Test.YtbndinaiclkajaaDoorKRefNum
set_option linter.unusedVariables false
namespace Go.Proofs.YtbndinaiclkajaaDoor.Pure
open Go.RowKit Go.Proofs.YtbndinaiclkajaaDoor.H Go.Proofs.YtbndinaiclkajaaDoorW.PrintWords Go.Proofs.YtbndinaiclkajaaDoor.K
theorem fit_len (bl fo : Bool) (l : List UInt8) : (fitL bl fo l).length ≤ l.length := by
  have h := (List.dropWhile_sublist blankC (l := l)).length_le
  unfold fitL
  cases bl <;> cases fo <;> simp [upL_len] <;> exact h
theorem key_size (f t : Int) (c : UInt8) (s : ByteArray) : (bs (keyO f t c s.data.toList)).size ≤ s.size := by
  rw [bs_size, Lib.size_eq]; exact keyO_len f t c _
theorem refCompare_f (nu fo bl re : Bool) (f t c : Int) (hc : 0 ≤ c ∧ c ≤ 255) (a b : ByteArray) (ha : a.size ≤ 1000000) (hb : b.size ≤ 1000000) :
    ∃ k, Q.toolchestref05_Compare.f k nu fo bl re f t c a b = some (cmpO nu fo bl re f t (Q.u8 c) a.data.toList b.data.toList) := by
  cases hck : checkO f t (Q.u8 c) with
  | false =>
    refine ⟨0, ?_⟩
    unfold Q.toolchestref05_Compare.f cmpO
    rw [refCheck_f nu fo bl re f t c hc, Option.bind_some, hck, if_neg (by decide), if_neg (by decide)]
  | true =>
    obtain ⟨k1, hk1⟩ := refKey_f nu fo bl re f t c hc a ha
    obtain ⟨k2, hk2⟩ := refKey_f nu fo bl re f t c hc b hb
    have l1 := fun d => lift (F := fun k => Q.toolchestref05_Key.f k nu fo bl re f t c a) (fun k => Q.toolchestref05_Key.mono nu fo bl re f t c a k) hk1 d
    have l2 := fun d => lift (F := fun k => Q.toolchestref05_Key.f k nu fo bl re f t c b) (fun k => Q.toolchestref05_Key.mono nu fo bl re f t c b k) hk2 d
    have s1 := key_size f t (Q.u8 c) a
    have s2 := key_size f t (Q.u8 c) b
    refine ⟨k1 + k2, ?_⟩
    unfold Q.toolchestref05_Compare.f cmpO byO
    rw [refCheck_f nu fo bl re f t c hc, Option.bind_some, hck, if_pos rfl, if_pos rfl, l1 k2, Option.bind_some, Nat.add_comm k1 k2, l2 k1, Option.bind_some]
    have hneg : ∀ x y, wrap64 (-numC x y) = -numC x y := fun x y => one_neg (Ord.num.one x y)
    have hnegB : ∀ x y, wrap64 (-cmpB x y) = -cmpB x y := fun x y => one_neg (cmpB_one x y)
    cases nu with
    | true =>
      rw [if_pos rfl, if_pos rfl, refNumber_f _ _ (by omega) (by omega), Option.bind_some, bs_toList, bs_toList, hneg]
      cases re <;> rfl
    | false =>
      simp only [if_neg (show ¬ ((false : Bool) = true) by decide)]
      unfold Q.toolchestref05_fit.f
      rw [if_pos (by omega), if_pos (by omega), Option.bind_some, Option.bind_some, bytes_f, Option.bind_some, bs_toList, bs_toList, bs_toList, bs_toList, hnegB]
      split <;> rfl
theorem compares_law (nu fo bl re : Bool) (f t c : Int) (a b : ByteArray) (hc : 0 ≤ c ∧ c ≤ 255) : ∃ k, Q.toolchestlaw05_KeysCompares.f k nu fo bl re f t c a b = some true := by
  by_cases ha : (a.size : Int) > 20000
  · refine ⟨1, ?_⟩
    unfold Q.toolchestlaw05_KeysCompares.f
    rw [if_pos ha, Q.toolchestlaw05_KeysCompares.j0, if_pos rfl]
  · by_cases hb : (b.size : Int) > 20000
    · refine ⟨1, ?_⟩
      unfold Q.toolchestlaw05_KeysCompares.f
      rw [if_neg ha, Q.toolchestlaw05_KeysCompares.j0, if_pos (decide_eq_true hb)]
    · obtain ⟨k, hk⟩ := refCompare_f nu fo bl re f t c hc a b (by omega) (by omega)
      have lk := lift (F := fun k => Q.toolchestref05_Compare.f k nu fo bl re f t c a b) (fun k => Q.toolchestref05_Compare.mono nu fo bl re f t c a b k) hk 1
      refine ⟨k + 2, ?_⟩
      have hch : Q.keys_Check.f (k + 1) nu fo bl re f t c = some (checkO f t (Q.u8 c)) := by
        have := Q.check_f k nu fo bl re f t (Q.u8 c)
        rw [Q.u8_nat hc] at this
        exact this
      unfold Q.toolchestlaw05_KeysCompares.f
      rw [if_neg ha, Q.toolchestlaw05_KeysCompares.j0, if_neg (by simpa using hb), hch, Option.bind_some, refCheck_f nu fo bl re f t c hc, Option.bind_some, beq_self_eq_true, if_pos rfl,
        comp_f hc (by omega) (by omega), Option.bind_some, lk, Option.bind_some, beq_self_eq_true]
theorem KeysCompares_walk (a0_0 : Bool) (a0_1 : Bool) (a0_2 : Bool) (a0_3 : Bool) (a0_4 : Int) (a0_5 : Int) (a0_6 : Int) (a1 : ByteArray) (a2 : ByteArray) (W : World) (ok0_4 : (Lit.int .i64 a0_4).wf = true) (ok0_5 : (Lit.int .i64 a0_5).wf = true) (ok0_6 : (Lit.int .u8 a0_6).wf = true) (ok1 : a1.size ≤ 140737488351232) (ok2 : a2.size ≤ 140737488351232) :
    Calls Tryd.prog 5 #[.agg #[.bool a0_0, .bool a0_1, .bool a0_2, .bool a0_3, .int .i64 a0_4, .int .i64 a0_5, .int .u8 a0_6], .string a1, .string a2] W fun e W' => e = .returned (.bool true) ∧ Below W.heap.size W W' :=
  Q.toolchestlaw05_KeysCompares.calls _ a0_0 a0_1 a0_2 a0_3 a0_4 a0_5 a0_6 a1 a2 true W (compares_law _ _ _ _ _ _ _ _ _ (byte_ok ok0_6)).choose_spec
end Go.Proofs.YtbndinaiclkajaaDoor.Pure
