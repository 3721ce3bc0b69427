/- What the printed walks take of the library, and of keys.Key. -/
import Derived.Test.YtlicjpbmlmongaaGreatDoorKKey
import Derived.Test.YtlicjpbmlmongaaGreatDoorQx9
set_option linter.unusedVariables false
set_option linter.unusedSimpArgs false
namespace Go.Proofs.YtlicjpbmlmongaaGreatDoor.Q
open Go.RowKit Go.Shelf Go.Proofs.YtlicjpbmlmongaaGreatDoorW.PrintWords Go.Proofs.YtlicjpbmlmongaaGreatDoor.H Go.Proofs.YtlicjpbmlmongaaGreatDoor.K
/-- Are all bytes below 128? -/
def asciiB (l : List UInt8) : Bool := l.all fun b => decide (b.toNat < 128)
theorem asciiB_at {l : List UInt8} (h : asciiB l = true) : ∀ (j : Nat) b, l[j]? = some b → b.toNat < 128 := by
 intro j b hb
 unfold asciiB at h
 rw [List.all_eq_true] at h
 simpa using h b (List.mem_of_getElem? hb)
def strings_TrimLeft.f (a0 : ByteArray) (a1 : ByteArray) : Option (ByteArray) := if a1.size ≤ 1000 ∧ asciiB a1.data.toList = true then some (K.bs (Lib.trimLeftS a0.data.toList a1.data.toList)) else none
theorem strings_TrimLeft.calls (a0 : ByteArray) (a1 : ByteArray) (r : ByteArray) (w : World) (h : strings_TrimLeft.f a0 a1 = some r) :
  Calls Tryz.prog 135 #[.string a0, .string a1] w fun e w' => e = .returned (.string r) ∧ Below w.heap.size w w' := by
 unfold strings_TrimLeft.f at h
 split at h
 ·rename_i hl
  obtain rfl := Option.some.inj h
  exact Any.strings_TrimLeft_laid Tryz.lays161 zeroSet a0 a1 w (by omega) (asciiB_at hl.2)
 ·cases h
def strings_TrimRight.f (a0 : ByteArray) (a1 : ByteArray) : Option (ByteArray) := if a0.size ≤ 9223372036854775807 ∧ a1.size ≤ 1000 ∧ asciiB a1.data.toList = true then some (K.bs (Lib.trimRightS a0.data.toList a1.data.toList)) else none
theorem strings_TrimRight.calls (a0 : ByteArray) (a1 : ByteArray) (r : ByteArray) (w : World) (h : strings_TrimRight.f a0 a1 = some r) :
  Calls Tryz.prog 157 #[.string a0, .string a1] w fun e w' => e = .returned (.string r) ∧ Below w.heap.size w w' := by
 unfold strings_TrimRight.f at h
 split at h
 ·rename_i hl
  obtain rfl := Option.some.inj h
  exact Any.strings_TrimRight_laid Tryz.lays162 zeroSet a0 a1 w hl.1 (by omega) (asciiB_at hl.2.2)
 ·cases h
def strings_CutPrefix.f (a0 : ByteArray) (a1 : ByteArray) : Option (ByteArray × Bool) := some (K.bs (Lib.trimPrefix a0.data.toList a1.data.toList), Lib.hasPrefix a0.data.toList a1.data.toList)
theorem strings_CutPrefix.calls (a0 : ByteArray) (a1 : ByteArray) (r1 : ByteArray) (r2 : Bool) (w : World) (h : strings_CutPrefix.f a0 a1 = some (r1, r2)) :
  Calls Tryz.prog 155 #[.string a0, .string a1] w fun e w' => e = .returned (.tuple #[.string r1, .bool r2]) ∧ Below w.heap.size w w' := by
 have h' := Option.some.inj h
 simp only [Prod.mk.injEq] at h'
 obtain ⟨rfl, rfl⟩ := h'
 exact (Tryz.strings_CutPrefix a0 a1 w).mono fun e w' ⟨h1, h2⟩ => ⟨h1, h2 ▸ Below.refl _ _⟩
def cmp_Compare_int.f (a0 : Int) (a1 : Int) : Option (Int) := some (cmpI a0 a1)
theorem cmp_Compare_int.calls (a0 : Int) (a1 : Int) (r : Int) (w : World) (h : cmp_Compare_int.f a0 a1 = some r) :
  Calls Tryz.prog 28 #[.int .i64 a0, .int .i64 a1] w fun e w' => e = .returned (.int .i64 r) ∧ Below w.heap.size w w' := by
 obtain rfl := Option.some.inj h
 exact (Tryz.cmp_Compare_int a0 a1 w).mono fun e w' ⟨h1, h2⟩ => ⟨h1, h2 ▸ Below.refl _ _⟩
def cmp_Compare_string.f (a0 : ByteArray) (a1 : ByteArray) : Option (Int) := some (cmpB a0.data.toList a1.data.toList)
theorem cmp_Compare_string.calls (a0 : ByteArray) (a1 : ByteArray) (r : Int) (w : World) (h : cmp_Compare_string.f a0 a1 = some r) :
  Calls Tryz.prog 86 #[.string a0, .string a1] w fun e w' => e = .returned (.int .i64 r) ∧ Below w.heap.size w w' := by
 obtain rfl := Option.some.inj h
 exact (compareS_walk a0 a1 w).mono fun e w' ⟨h1, h2⟩ => ⟨h1, h2 ▸ Below.refl _ _⟩
/-- A byte that came as a number. -/
def u8 (a : Int) : UInt8 := UInt8.ofNat a.toNat
theorem u8_nat {a : Int} (h : 0 ≤ a ∧ a ≤ 255) : ((u8 a).toNat : Int) = a := by
 unfold u8
 rw [UInt8.toNat_ofNat_of_lt' (by show a.toNat < 256; omega)]
 omega
theorem check_f (k : Nat) (nu fo bl re : Bool) (f t : Int) (c : UInt8) : keys_Check.f (k + 1) nu fo bl re f t (c.toNat : Int) = some (checkO f t c) := by
 have hc : (c.toNat : Int) = 10 ↔ c = 10 := by
  rw [← UInt8.toNat_inj]
  show _ ↔ c.toNat = 10
  omega
 unfold keys_Check.f checkO
 simp only [keys_Check.j0]
 by_cases h1 : f < 0
 ·rw [if_pos h1, if_pos (decide_eq_true h1)]; congr 1; symm; rw [decide_eq_false_iff_not]; omega
 ·rw [if_neg h1]
  by_cases h2 : f > 1000
  ·rw [if_pos h2, if_pos (decide_eq_true h2)]; congr 1; symm; rw [decide_eq_false_iff_not]; omega
  ·rw [if_neg h2]
   by_cases h3 : c = 10
   ·rw [if_pos (by rw [beq_iff_eq]; exact hc.2 h3)]; congr 1; symm; rw [decide_eq_false_iff_not]; exact fun e => e.2.2.1 h3
   ·rw [if_neg (by rw [beq_iff_eq]; exact fun e => h3 (hc.1 e))]
    by_cases h4 : t = 0
    ·rw [if_pos h4]; congr 1; symm; rw [decide_eq_true_eq]; exact ⟨by omega, by omega, h3, .inl h4⟩
    ·rw [if_neg h4]
     by_cases h5 : f > 0
     ·rw [if_pos h5]
      by_cases h6 : f ≤ t
      ·rw [if_pos h6]; congr 1; rw [decide_eq_decide]
       exact ⟨fun h => ⟨by omega, by omega, h3, .inr ⟨h5, h6, h⟩⟩, fun h => by have := h.2.2.2; omega⟩
      ·rw [if_neg h6]; congr 1; symm; rw [decide_eq_false_iff_not]; intro h; have := h.2.2.2; omega
     ·rw [if_neg h5]; congr 1; symm; rw [decide_eq_false_iff_not]; intro h; have := h.2.2.2; omega
theorem trimLeft_blanks (x : ByteArray) (w : World) : Calls Tryz.prog 135 #[.string x, .string ⟨#[32, 9]⟩] w fun e w' => e = .returned (.string (K.bs (x.data.toList.dropWhile blankC))) ∧ Below w.heap.size w w' := by
 refine strings_TrimLeft.calls x ⟨#[32, 9]⟩ _ w ?_
 unfold strings_TrimLeft.f
 rw [if_pos ⟨by decide, by decide⟩]
 rw [← trim_blanks]
theorem indexByte_at (c : UInt8) (x : ByteArray) (w : World) : Calls Tryz.prog 159 #[.string x, .int .u8 (c.toNat : Int)] w fun e w' => e = .returned (.int .i64 (Lib.indexByte x.data.toList c)) ∧ w' = w := by
 refine (Tryz.strings_IndexByte x (c.toNat : Int) w).mono fun e w' ⟨h1, h2⟩ => ⟨?_, h2⟩
 rw [h1]
 congr 4
 simp
def keys_Key.f (a0_0 : Bool) (a0_1 : Bool) (a0_2 : Bool) (a0_3 : Bool) (a0_4 : Int) (a0_5 : Int) (a0_6 : Int) (a1 : ByteArray) : Option (ByteArray) := if (0 ≤ a0_6 ∧ a0_6 ≤ 255) ∧ a1.size ≤ 4294967280 then some (K.bs (keyO a0_4 a0_5 (u8 a0_6) a1.data.toList)) else none
theorem keys_Key.calls (a0_0 : Bool) (a0_1 : Bool) (a0_2 : Bool) (a0_3 : Bool) (a0_4 : Int) (a0_5 : Int) (a0_6 : Int) (a1 : ByteArray) (r : ByteArray) (w : World) (h : keys_Key.f a0_0 a0_1 a0_2 a0_3 a0_4 a0_5 a0_6 a1 = some r) :
  Calls Tryz.prog 90 #[.agg #[.bool a0_0, .bool a0_1, .bool a0_2, .bool a0_3, .int .i64 a0_4, .int .i64 a0_5, .int .u8 a0_6], .string a1] w fun e w' => e = .returned (.string r) ∧ Below w.heap.size w w' := by
 unfold keys_Key.f at h
 split at h
 ·rename_i hl
  obtain rfl := Option.some.inj h
  rw [← u8_nat hl.1]
  rw [u8_nat hl.1]
  have e6 := u8_nat hl.1
  generalize u8 a0_6 = c at e6
  subst e6
  exact callsIn_wide.1 (key_in Fence.wide 10 trivial trivial trivial trivial trivial trivial trivial rfl (by omega) a0_0 a0_1 a0_2 a0_3 a0_4 a0_5 c a1 hl.2 w
   (fun m w => callsIn_wide.2 (keys_Check.calls 1 a0_0 a0_1 a0_2 a0_3 a0_4 a0_5 (c.toNat : Int) _ w (check_f 0 a0_0 a0_1 a0_2 a0_3 a0_4 a0_5 c)))
   (fun m x w => callsIn_wide.2 (indexByte_at c x w)) (fun m x w => callsIn_wide.2 (trimLeft_blanks x w)) (fun m x w hx => callsIn_wide.2 (indexAny_blank x w (by omega))))
 ·cases h
end Go.Proofs.YtlicjpbmlmongaaGreatDoor.Q
