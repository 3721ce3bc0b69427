/- KeysBegin. -/
import Derived.Test.YtbndinaiclkajaaDoorQx21
import Derived.Test.YtbndinaiclkajaaDoorKAlive
set_option linter.unusedVariables false
namespace Go.Proofs.YtbndinaiclkajaaDoor.Pure
open Go.RowKit Go.Proofs.YtbndinaiclkajaaDoor.H Go.Proofs.YtbndinaiclkajaaDoorW.PrintWords Go.Proofs.YtbndinaiclkajaaDoor.K
theorem bsl (l : List UInt8) : (bs l).toList = l := by rw [Lib.toList_data, bs_toList]
theorem begin_f (nu fo bl re : Bool) (f t c : Int) (s : ByteArray) (hc : 0 ≤ c ∧ c ≤ 255) : ∃ k, Q.toolchestlaw05_KeysBegin.f k nu fo bl re f t c s = some true := by
  have hz : s.data.toList.length = s.size := (Lib.size_eq s).symm
  refine ⟨8, ?_⟩
  have h8 := alive8
  obtain ⟨k, hk⟩ : ∃ k, k = 7 := ⟨_, rfl⟩
  have h7 : Q.toolchestlaw05_alive.f k = some true := by rw [hk]; exact alive7
  have hch : Q.keys_Check.f k nu fo bl re f 0 c = some (checkO f 0 (Q.u8 c)) := by
    have := Q.check_f 6 nu fo bl re f 0 (Q.u8 c)
    rw [Q.u8_nat hc] at this
    rw [hk]; exact this
  unfold Q.toolchestlaw05_KeysBegin.f
  rw [h8, Option.bind_some, if_pos rfl, show (8 : Nat) = k + 1 by omega]
  clear hk h8
  by_cases hs : (s.size : Int) > 5000
  · rw [decide_eq_true hs, Q.toolchestlaw05_KeysBegin.j0, if_pos rfl, h7]; rfl
  · rw [decide_eq_false hs, Q.toolchestlaw05_KeysBegin.j0, if_neg (by decide), key_f hc (by omega), Option.bind_some, key_f hc (by omega), Option.bind_some, hch, Option.bind_some]
    cases hck : checkO f 0 (Q.u8 c) with
    | false =>
      rw [if_neg (by decide)]
      have e0 : keyO f 0 (Q.u8 c) s.data.toList = [] := by unfold keyO; rw [hck]; rfl
      have e1 : keyO f t (Q.u8 c) s.data.toList = [] := by
        unfold keyO
        rw [if_neg]
        intro h
        unfold checkO at h hck
        rw [decide_eq_true_eq] at h
        rw [decide_eq_false_iff_not] at hck
        exact hck ⟨h.1, h.2.1, h.2.2.1, .inl rfl⟩
      rw [e0, e1, bsl]
      rfl
    | true =>
      obtain ⟨hp, ⟨a, ha⟩, hf⟩ := key_begin f t (Q.u8 c) s.data.toList hck
      have hAl : (keyO f 0 (Q.u8 c) s.data.toList).length = s.data.toList.length - a := by rw [ha, List.length_drop]
      generalize keyO f t (Q.u8 c) s.data.toList = K at hp ⊢
      have hK := List.prefix_iff_eq_take.1 hp
      have hl := hp.length_le
      generalize keyO f 0 (Q.u8 c) s.data.toList = A at hp ha hf hAl hK hl ⊢
      have hw : wrap64 ((s.size : Int) - ((bs A).size : Int)) = ((s.size - A.length : Nat) : Int) := by rw [bs_size]; unfold wrap64; omega
      have x1 : ((bs A).extract 0 (((bs K).size : Int) : Int).toNat).toList = (bs K).toList := by
        rw [Int.toNat_natCast, bs_size, extract_bs, bs_toList, bsl, bsl, List.drop_zero, Nat.sub_zero]; exact hK.symm
      have x2 : (s.extract ((s.size - A.length : Nat) : Int).toNat s.size).toList = (bs A).toList := by
        rw [Int.toNat_natCast, extract_bs, bsl, bsl, List.take_of_length_le (by rw [List.length_drop]; omega)]
        by_cases h : a ≤ s.data.toList.length
        · rw [show s.size - A.length = a by omega]; exact ha.symm
        · rw [List.drop_eq_nil_of_le (by omega), ha, List.drop_eq_nil_of_le (by omega)]
      rw [if_pos rfl, if_pos (by rw [bs_size, bs_size]; omega), if_pos (by omega), if_pos x1, if_pos (by rw [bs_size]; omega), hw, if_pos (by omega), if_pos (by omega), if_pos x2]
      by_cases h1 : f > 1
      · rw [if_pos h1]
      · rw [if_neg h1, hf (by omega), bsl, Lib.toList_data, beq_self_eq_true]
theorem KeysBegin_walk (a0_0 : Bool) (a0_1 : Bool) (a0_2 : Bool) (a0_3 : Bool) (a0_4 : Int) (a0_5 : Int) (a0_6 : Int) (a1 : ByteArray) (W : World) (ok0_4 : (Lit.int .i64 a0_4).wf = true) (ok0_5 : (Lit.int .i64 a0_5).wf = true) (ok0_6 : (Lit.int .u8 a0_6).wf = true) (ok1 : a1.size ≤ 140737488351232) :
    Calls Tryd.prog 11 #[.agg #[.bool a0_0, .bool a0_1, .bool a0_2, .bool a0_3, .int .i64 a0_4, .int .i64 a0_5, .int .u8 a0_6], .string a1] W fun e W' => e = .returned (.bool true) ∧ Below W.heap.size W W' :=
  Q.toolchestlaw05_KeysBegin.calls _ a0_0 a0_1 a0_2 a0_3 a0_4 a0_5 a0_6 a1 true W (begin_f _ _ _ _ _ _ _ _ (byte_ok ok0_6)).choose_spec
end Go.Proofs.YtbndinaiclkajaaDoor.Pure
