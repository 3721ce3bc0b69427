/- ViewsRest: a line joined with one that has just its key is the key, and then its other fields: the walk of the law. -/
import Derived.Test.YthkaekeelokajaaDoorVAlive
import Derived.Test.YthkaekeelokajaaDoorPlain
import Derived.Laws.IdiomStrings
set_option linter.unusedVariables false
set_option linter.unusedSimpArgs false
namespace Go.Proofs.YthkaekeelokajaaDoor.P
open Go.RowKit Go.Proofs Go.Proofs.YthkaekeelokajaaDoor.Q Go.Proofs.YthkaekeelokajaaDoor.H Go.Proofs.YthkaekeelokajaaDoor.C Go.Proofs.YthkaekeelokajaaDoor.S Go.Proofs.YthkaekeelokajaaDoorW.PrintWords Go.Proofs.YthkaekeelokajaaDoorW.PrintLast

/-- The fields of a line by a byte. -/
theorem fieldsR (s : ByteArray) (c : UInt8) (hc : c ≠ 0) : fieldsOf s (c.toNat : Int) = (splitL (· == c) s.data.toList).map bs := by
  unfold fieldsOf
  rw [if_neg (fun e => hc (by rw [← UInt8.toNat_inj]; show c.toNat = 0; omega)), partsOf_spl]
  congr 2
  funext b
  rw [Bool.eq_iff_iff, beq_iff_eq, beq_iff_eq, ← UInt8.toNat_inj]
  omega
theorem field_alone (s : ByteArray) (c : UInt8) (hc : c ≠ 0) (x : ByteArray) (hx : x ∈ fieldsOf s (c.toNat : Int)) : fieldsOf x (c.toNat : Int) = [x] := by
  rw [fieldsR s c hc] at hx
  obtain ⟨y, hy, rfl⟩ := List.mem_map.1 hx
  rw [fieldsR _ c hc, bs_toList]
  have h := splitL_none (· == c) s.data.toList y hy
  unfold splitL
  rw [splitL_one _ y h]
  rfl
/-- What is put together, up to some field. -/
def restW (c : UInt8) (F : List ByteArray) (k i : Nat) : List UInt8 := (F.getD k ⟨#[]⟩).data.toList ++ ((F.take i).eraseIdx k).flatMap (fun x => c :: x.data.toList)
theorem restW_zero (c : UInt8) (F : List ByteArray) (k : Nat) : restW c F k 0 = (F.getD k ⟨#[]⟩).data.toList := by simp [restW]
theorem restW_same (c : UInt8) (F : List ByteArray) (k : Nat) (h : k < F.length) : restW c F k (k + 1) = restW c F k k := by
  unfold restW
  rw [List.take_succ_eq_append_getElem h, List.eraseIdx_append_of_length_le (by rw [List.length_take]; omega)]
  rw [List.length_take, Nat.min_eq_left (by omega), Nat.sub_self]
  rw [List.eraseIdx_of_length_le (l := F.take k) (by rw [List.length_take]; omega)]
  simp
theorem restW_other (c : UInt8) (F : List ByteArray) (k i : Nat) (h : i < F.length) (hne : i ≠ k) : restW c F k (i + 1) = restW c F k i ++ [c] ++ F[i].data.toList := by
  unfold restW
  rw [List.take_succ_eq_append_getElem h]
  by_cases hk : k < i
  · rw [List.eraseIdx_append_of_lt_length (by rw [List.length_take]; omega)]
    simp
  · rw [List.eraseIdx_of_length_le (l := F.take i ++ [F[i]]) (by simp; omega), List.eraseIdx_of_length_le (l := F.take i) (by rw [List.length_take]; omega)]
    simp only [List.flatMap_append, List.flatMap_cons, List.flatMap_nil, List.append_nil, List.append_assoc, List.singleton_append]
theorem join_flat (c : UInt8) (x : List UInt8) (l : List (List UInt8)) : Lib.join (x :: l) [c] = x ++ l.flatMap (fun y => c :: y) := by
  rw [Lib.join_cons]
  congr 1
theorem restW_all (c : UInt8) (F : List ByteArray) (k : Nat) (h : k < F.length) : Lib.join (([F[k]] ++ (F.eraseIdx k ++ [])).map (fun x : ByteArray => x.data.toList)) [c] = restW c F k F.length := by
  rw [List.singleton_append, List.map_cons, join_flat]
  unfold restW
  rw [List.take_length, List.append_nil, List.getD_eq_getElem?_getD, List.getElem?_eq_getElem h, List.flatMap_map]
  rfl
theorem restW_len (c : UInt8) (F : List ByteArray) (n k : Nat) (hs : ∀ x ∈ F, x.size ≤ n) (i : Nat) : (restW c F k i).length ≤ n + F.length * (n + 1) := by
  unfold restW
  rw [List.length_append]
  have h1 : (F.getD k ⟨#[]⟩).data.toList.length ≤ n := by
    rw [← Lib.size_eq, List.getD_eq_getElem?_getD]
    cases e : F[k]? with
    | none => exact Nat.zero_le _
    | some x => exact hs x (List.mem_of_getElem? e)
  have h2 : ∀ l : List ByteArray, (∀ x ∈ l, x.size ≤ n) → (l.flatMap (fun x => c :: x.data.toList)).length ≤ l.length * (n + 1) := by
    intro l
    induction l with
    | nil => intro _; simp
    | cons x l ih =>
      intro h
      rw [List.flatMap_cons, List.length_append, List.length_cons, List.length_cons, Nat.succ_mul]
      have := ih (fun y hy => h y (List.mem_cons_of_mem _ hy))
      have h3 := h x List.mem_cons_self
      rw [Lib.size_eq] at h3
      omega
  have h3 := h2 ((F.take i).eraseIdx k) (fun x hx => hs x (List.mem_of_mem_take (List.mem_of_mem_eraseIdx hx)))
  have h4 : ((F.take i).eraseIdx k).length ≤ F.length := Nat.le_trans (List.length_eraseIdx_le _ _) (by rw [List.length_take]; omega)
  have h5 := Nat.mul_le_mul_right (n + 1) h4
  omega
theorem ltB_irr (x : ByteArray) : ltB x x = false := by
  unfold ltB
  rw [Lib.toList_data]
  generalize x.data.toList = l
  induction l with
  | nil => rfl
  | cons a l ih => unfold Op.bytesLess; simp [ih]
/-- The join of a line with its key. -/
theorem join_rest (s : ByteArray) (c : UInt8) (hc : c ≠ 0) (hn : c ≠ 10) (k : Nat) (hk : k < (fieldsOf s (c.toNat : Int)).length) (hl : (fieldsOf s (c.toNat : Int)).length ≤ 1000) :
    joinR [s] [(fieldsOf s (c.toNat : Int))[k]] ((k : Int) + 1) 1 (c.toNat : Int) = ([⟨(restW c (fieldsOf s (c.toNat : Int)) k (fieldsOf s (c.toNat : Int)).length).toArray⟩], 0) := by
  have ha := field_alone s c hc _ (List.getElem_mem hk)
  obtain ⟨F, hF⟩ : ∃ F, fieldsOf s (c.toNat : Int) = F := ⟨_, rfl⟩
  have hp1 : fieldP (c.toNat : Int) (k + 1) s = (F.getD k ⟨#[]⟩, F.eraseIdx k) := by
    unfold fieldP; rw [if_pos (by omega), hF]; rfl
  simp only [hF] at hk hl ha ⊢
  have hgd : F.getD k ⟨#[]⟩ = F[k] := by rw [List.getD_eq_getElem?_getD, List.getElem?_eq_getElem hk]; rfl
  rw [hgd] at hp1
  have hp2 : fieldP (c.toNat : Int) 1 F[k] = (F[k], []) := by
    unfold fieldP; rw [ha]; rfl
  have hcn : ¬ (c.toNat : Int) = 10 := fun e => hn (by rw [← UInt8.toNat_inj]; show c.toNat = 10; omega)
  have hbt : betwB (c.toNat : Int) = c := by
    have h0 := betwB_int (c.toNat : Int) (by omega) (by have := c.toNat_lt; omega)
    have h1 : sepOf (c.toNat : Int) = (c.toNat : Int) := by
      unfold sepOf
      rw [if_neg (fun e => hc (by rw [← UInt8.toNat_inj]; show c.toNat = 0; omega))]
    rw [h1] at h0
    exact UInt8.toNat_inj.1 (by omega)
  unfold joinR
  rw [if_neg (by omega), show ((k : Int) + 1).toNat = k + 1 by omega, show (1 : Int).toNat = 1 from rfl]
  simp only [List.map_cons, List.map_nil]
  rw [hp1, hp2]
  unfold ansJ
  have hsx : ∀ x : ByteArray, sortedP [x] = true := fun x => rfl
  simp only [List.map_cons, List.map_nil]
  rw [if_neg (by rw [hsx]; simp)]
  have hpi : pairsI [F[k]] [F[k]] 1 = [(0, 0)] := by
    have hg : ∀ x : ByteArray, ([x] : List ByteArray).getD 0 ⟨#[]⟩ = x := fun x => rfl
    have hf : froms [F[k]] [F[k]] 1 = 0 := by
      simp only [froms, hg]
      unfold adv
      simp [ltB_irr]
    have hs : same [F[k]] F[k] 0 = 1 := by unfold same; simp
    simp only [pairsI, rowI, hg, hf, hs]
    rfl
  have hln : linesJ (c.toNat : Int) [(F[k], F.eraseIdx k)] [(F[k], [])] = [⟨(restW c F k F.length).toArray⟩] := by
    unfold linesJ
    simp only [List.map_cons, List.map_nil, List.length_cons, List.length_nil, Nat.zero_add]
    rw [hpi]
    simp only [List.map_cons, List.map_nil]
    congr 1
    unfold lineJ
    rw [hbt]
    show (⟨(Lib.join (([F[k]] ++ (F.eraseIdx k ++ [])).map (fun x : ByteArray => x.data.toList)) [c]).toArray⟩ : ByteArray) = _
    rw [restW_all c F k hk]
  rw [hln, if_neg (by simp)]
theorem join_restF (s : ByteArray) (c : UInt8) (hc : c ≠ 0) (hn : c ≠ 10) (F : List ByteArray) (hF : fieldsOf s (c.toNat : Int) = F) (k : Nat) (hk : k < F.length) (hl : F.length ≤ 1000) :
    joinR [s] [F[k]] ((k : Int) + 1) 1 (c.toNat : Int) = ([⟨(restW c F k F.length).toArray⟩], 0) := by
  subst hF
  exact join_rest s c hc hn k hk hl
theorem byteR_of (x : Int) (h : (Lit.int .u8 x).wf = true) : ∃ c : UInt8, x = (c.toNat : Int) := by
  have h' : 0 ≤ x ∧ x ≤ 255 := by simpa [Lit.wf, IntKind.min, IntKind.max, IntKind.signed, IntKind.bits] using h
  exact ⟨UInt8.ofNat x.toNat, by simp [UInt8.toNat_ofNat']; omega⟩
theorem str_addR (T : TypeId) (a b : ByteArray) (h : a.size + b.size ≤ 9223372036854775807) : binOp .add T (.string a) (.string b) = pure (.string (a ++ b)) := by
  simp only [binOp, Op.stringOp]
  rw [if_neg]
  rw [show IntKind.i64.max = 9223372036854775807 from rfl]
  omega
theorem bt_catR (a b : List UInt8) : (⟨a.toArray⟩ : ByteArray) ++ ⟨b.toArray⟩ = ⟨(a ++ b).toArray⟩ := by
  apply ByteArray.ext
  simp [ByteArray.data_append]
theorem bs_ofR (s : ByteArray) : (⟨s.data.toList.toArray⟩ : ByteArray) = s := by cases s; rfl
theorem rfields_calls (s : ByteArray) (c : Int) (hs : s.size ≤ 8796093022000) (w : World) :
    Calls Tryd.prog 29 #[.string s, .int .u8 c] w fun e W' => ∃ A z, e = .returned (.slice A (fieldsOf s c).length z) ∧ (fieldsOf s c).length ≤ z ∧ Kd.C Kd.string W' A (fieldsOf s c).length (fieldsOf s c) ∧ Below w.heap.size w W' :=
  (callsIn_wide.1 (fields_in Fence.wide 10 trivial trivial trivial trivial trivial trivial trivial rfl (by omega) s c hs w)).mono fun e W' ⟨v, e1, ho, hb⟩ => by
    obtain ⟨A, z, rfl, hz, hC⟩ := Kd.R_reads (R_of_own ho)
    exact ⟨A, z, e1, hz, hC, hb⟩
theorem fields_pos (s : ByteArray) (c : UInt8) (hc : c ≠ 0) : 0 < (fieldsOf s (c.toNat : Int)).length := by
  rw [fieldsR s c hc, List.length_map]
  exact List.length_pos_iff.2 (splitL_ne _ _)
theorem joinR_calls (s x : ByteArray) (k : Nat) (c : UInt8) (R : ByteArray) (A1 A2 : Option Addr) (w : World) (hs : s.size ≤ 20000) (hx : x.size ≤ 20000) (h1 : Kd.C Kd.string w A1 1 [s]) (h2 : Kd.C Kd.string w A2 1 [x]) (hj : joinR [s] [x] ((k : Int) + 1) 1 (c.toNat : Int) = ([R], 0)) :
    Calls Tryd.prog 28 #[.slice A1 1 1, .slice A2 1 1, .int .i64 ((k : Int) + 1), .int .i64 1, .int .u8 (c.toNat : Int)] w fun e w' => (∃ ad z, e = .returned (.tuple #[.slice (some ad) 1 z, .int .i64 0]) ∧ 1 ≤ z ∧ w'.cell? ad = some (.string R)) ∧ Below w.heap.size w w' := by
  refine (join_calls A1 A2 1 1 [s] [x] ((k : Int) + 1) 1 (c.toNat : Int) (by omega) (by have := c.toNat_lt; omega) w h1 h2 (by simp) (by simp) (by simp) (by simp) (fun y hy => by rw [List.mem_singleton.1 hy]; exact hs) (fun y hy => by rw [List.mem_singleton.1 hy]; exact hx)).mono ?_
  rw [hj]
  rintro e w' ⟨v, rfl, ht⟩
  obtain ⟨A, z, rfl, hz, hC⟩ := ts_reads ht
  obtain ⟨ad, rfl, hx4⟩ := C_at hC (Below.refl _ _) 0 Nat.zero_lt_one
  refine ⟨⟨ad, z, rfl, hz, ?_⟩, ht.low⟩
  have e0 : ad.add 0 = ad := by unfold Addr.add; rw [if_pos rfl]
  rw [e0] at hx4
  exact hx4
set_option maxHeartbeats 4000000 in
set_option maxRecDepth 100000 in
theorem ViewsRest_walk (a0 : ByteArray) (a1 : Int) (a2 : Int) (W : World) (hT : TzW W) (ok0 : a0.size ≤ 140737488351232) (ok1 : (Lit.int .u8 a1).wf = true) (ok2 : (Lit.int .u8 a2).wf = true) :
    Calls Tryd.prog 8 #[.string a0, .int .u8 a1, .int .u8 a2] W fun e W' => e = .returned (.bool true) ∧ Below W.heap.size W W' := by
  obtain ⟨c, rfl⟩ := byteR_of a1 ok1
  obtain ⟨m, rfl⟩ := byteR_of a2 ok2
  have HT := Lib.hid hT
  have HAL := Lib.hid (fun w h => alive_calls w h)
  clear hT ok1 ok2
  by_cases hb : 5000 < a0.size
  · have d1 : decide ((5000 : Int) < (a0.size : Int)) = true := decide_eq_true (by omega)
    clear hb
    go_enter Tryd.func8, Tryd.ntmps8
    go_wp2_with fail
    with_reducible refine (HAL.out _ HT.out).mono ?_
    rintro e w1 ⟨rfl, hb1⟩
    have B1 := Lib.hid hb1
    clear hb1
    go_wp2_with fail
    with_reducible refine (HAL.out _ (HT.out.below B1.out)).mono ?_
    rintro e w9 ⟨rfl, hb9⟩
    go_wp2
    go_ret
    exact ⟨rfl, bth B1.out hb9⟩
  · have d1 : decide ((5000 : Int) < (a0.size : Int)) = false := decide_eq_false (by omega)
    by_cases hc0 : c = 0
    · have d2 : ((c.toNat : Int) == 0) = true := by rw [hc0]; rfl
      clear hc0
      go_enter Tryd.func8, Tryd.ntmps8
      go_wp2_with fail
      with_reducible refine (HAL.out _ HT.out).mono ?_
      rintro e w1 ⟨rfl, hb1⟩
      have B1 := Lib.hid hb1
      clear hb1
      go_wp2_with fail
      with_reducible refine (HAL.out _ (HT.out.below B1.out)).mono ?_
      rintro e w9 ⟨rfl, hb9⟩
      go_wp2
      go_ret
      exact ⟨rfl, bth B1.out hb9⟩
    · have d2 : ((c.toNat : Int) == 0) = false := beq_eq_false_iff_ne.2 (fun e => hc0 (UInt8.toNat_inj.1 (by show c.toNat = 0; omega)))
      by_cases hc10 : c = 10
      · have d3 : ((c.toNat : Int) == 10) = true := by rw [hc10]; rfl
        clear hc0 hc10
        go_enter Tryd.func8, Tryd.ntmps8
        go_wp2_with fail
        with_reducible refine (HAL.out _ HT.out).mono ?_
        rintro e w1 ⟨rfl, hb1⟩
        have B1 := Lib.hid hb1
        clear hb1
        go_wp2_with fail
        with_reducible refine (HAL.out _ (HT.out.below B1.out)).mono ?_
        rintro e w9 ⟨rfl, hb9⟩
        go_wp2
        go_ret
        exact ⟨rfl, bth B1.out hb9⟩
      · have d3 : ((c.toNat : Int) == 10) = false := beq_eq_false_iff_ne.2 (fun e => hc10 (UInt8.toNat_inj.1 (by show c.toNat = 10; omega)))
        have hs : a0.size ≤ 5000 := by omega
        have hFC := fun w => rfields_calls a0 (c.toNat : Int) (by omega) w
        have hfp := fields_pos a0 c hc0
        have hfl := fieldsOf_len a0 (c.toNat : Int)
        have hfs := fieldsOf_size a0 (c.toNat : Int)
        obtain ⟨F, hF⟩ : ∃ F, fieldsOf a0 (c.toNat : Int) = F := ⟨_, rfl⟩
        have hjr := fun k hk hl => join_restF a0 c hc0 hc10 F hF k hk hl
        simp only [hF] at hFC hfp hfl hfs
        have HFC := Lib.hid hFC
        have HJR := Lib.hid hjr
        have HFS := Lib.hid hfs
        clear hF hFC hfs hjr hc0 hc10 hb
        by_cases hbl : 1000 < F.length
        · have d4 : decide ((1000 : Int) < (F.length : Int)) = true := decide_eq_true (by omega)
          have D4 := Lib.hid d4
          clear hbl d4
          go_enter Tryd.func8, Tryd.ntmps8
          go_wp2_with fail
          with_reducible refine (HAL.out _ HT.out).mono ?_
          rintro e w1 ⟨rfl, hb1⟩
          have B1 := Lib.hid hb1
          clear hb1
          go_wp2_with fail
          with_reducible refine (HFC.out _).mono ?_
          rintro e w2 ⟨A2, z2, rfl, hz2, hC2, hb2⟩
          have B2 := Lib.hid (bth B1.out hb2)
          clear hb2 hC2
          have d4 := D4.out
          go_wp2
          go_ret
          exact ⟨rfl, B2.out⟩
        · have d4 : decide ((1000 : Int) < (F.length : Int)) = false := decide_eq_false (by omega)
          obtain ⟨k, hk⟩ : ∃ k, m.toNat % F.length = k := ⟨_, rfl⟩
          have hkl : k < F.length := by rw [← hk]; exact Nat.mod_lt _ hfp
          have hmod : (m.toNat : Int).tmod (F.length : Int) = (k : Int) := by rw [Int.tmod_eq_emod_of_nonneg (Int.natCast_nonneg _), ← hk]; rfl
          have hmw : IntKind.i64.wrap (m.toNat : Int) = (m.toNat : Int) := IntWalk.i64_in _ (by have := m.toNat_lt; omega)
          have hkw : IntKind.i64.wrap (k : Int) = (k : Int) := IntWalk.i64_in _ (by omega)
          have hf0 : ((F.length : Int) == 0) = false := beq_eq_false_iff_ne.2 (by omega)
          have hf00 : ¬ (F.length : Int) = 0 := by omega
          have D4 := Lib.hid (And.intro d4 (And.intro hmod (And.intro hmw (And.intro hkw (And.intro hf0 hf00)))))
          clear d4 hmod hmw hkw hf0 hf00 hk
          go_enter Tryd.func8, Tryd.ntmps8
          go_wp2_with fail
          with_reducible refine (HAL.out _ HT.out).mono ?_
          rintro e w1 ⟨rfl, hb1⟩
          have B1 := Lib.hid hb1
          clear hb1
          go_wp2_with fail
          with_reducible refine (HFC.out _).mono ?_
          rintro e w2 ⟨A2, z2, rfl, hz2, hC2, hb2⟩
          obtain ⟨ad, rfl, hx2⟩ := C_at hC2 (Below.refl _ _) k hkl
          have B2 := Lib.hid (bth B1.out hb2)
          have C2 := Lib.hid hC2
          clear hb2 hC2
          obtain ⟨d4, hmod, hmw, hkw, hf0, hf00⟩ := D4.out
          have hgd : F.getD k ⟨#[]⟩ = F[k] := by rw [List.getD_eq_getElem?_getD, List.getElem?_eq_getElem hkl]; rfl
          obtain ⟨X, hX⟩ : ∃ X, F[k] = X := ⟨_, rfl⟩
          have hxe : (⟨(restW c F k 0).toArray⟩ : ByteArray) = X := by rw [restW_zero, hgd, hX, bs_ofR]
          rw [hX] at hx2
          have HX := Lib.hid (And.intro hX hxe)
          clear hgd hX hxe
          go_wp2
          clear d4 hmod hmw hkw hf0 hf00 d1 d2 d3
          go_loopw [9, 10] (fun s i wr => ∃ j : Nat, j ≤ F.length ∧ i = .int .i64 (j : Int) ∧ s = .string ⟨(restW c F k j).toArray⟩ ∧ Hid (Below w2.heap.size w2 wr)) (fun _ i _ => F.length - (intOf i).toNat)
          case atStart => exact ⟨0, Nat.zero_le _, rfl, by rw [HX.out.2], Lib.hid (Below.refl _ _)⟩
          case round =>
            obtain ⟨j, hj, rfl, rfl, hst⟩ := hrel
            by_cases hlt : j < F.length
            · obtain ⟨ad', hae, hx⟩ := C_at C2.out hst.out j hlt
              obtain rfl := Option.some.inj hae
              obtain ⟨S0, hS0⟩ : ∃ S0 : ByteArray, (⟨(restW c F k j).toArray⟩ : ByteArray) = S0 := ⟨_, rfl⟩
              by_cases hjk : j = k
              · have hne : ((j : Int) != (k : Int)) = false := by rw [hjk]; simp
                have HZ := Lib.hid (show S0 = ⟨(restW c F k (j + 1)).toArray⟩ by rw [← hS0, hjk, restW_same c F k hkl])
                clear hjk
                rw [hS0]
                go_wp2
                go_roundw
                case rel => exact ⟨j + 1, hlt, by go_num, by rw [HZ.out], hst⟩
                case measure => simp [intOf]; omega
              · have hne : ((j : Int) != (k : Int)) = true := by rw [bne_iff_ne]; omega
                have hl := restW_len c F 5000 k (fun x hx => by have := HFS.out x hx; omega) j
                have hl2 : (restW c F k j).length ≤ 10000000 := by
                  have : F.length * 5001 ≤ 1000 * 5001 := Nat.mul_le_mul_right _ (by omega)
                  omega
                have hS0s : S0.size ≤ 10000000 := by rw [← hS0]; show (restW c F k j).toArray.size ≤ _; rw [List.size_toArray]; exact hl2
                have hxs : F[j].size ≤ 5000 := by have := HFS.out F[j] (List.getElem_mem hlt); omega
                have hro := restW_other c F k j hlt hjk
                obtain ⟨Y0, hY0⟩ : ∃ Y0, F[j] = Y0 := ⟨_, rfl⟩
                rw [hY0] at hx hxs hro
                obtain ⟨Y, hY⟩ : ∃ Y : ByteArray, S0 ++ ⟨#[c]⟩ = Y := ⟨_, rfl⟩
                obtain ⟨Z, hZ⟩ : ∃ Z : ByteArray, Y ++ Y0 = Z := ⟨_, rfl⟩
                have hYs : Y.size = S0.size + 1 := by rw [← hY, ByteArray.size_append]; rfl
                have t1 : ∀ T, binOp .add T (.string S0) (.string ⟨#[c]⟩) = pure (.string Y) := fun T => by rw [str_addR T S0 ⟨#[c]⟩ (by show S0.size + 1 ≤ _; omega), hY]
                have t2 : ∀ T, binOp .add T (.string Y) (.string Y0) = pure (.string Z) := fun T => by rw [str_addR T Y Y0 (by omega), hZ]
                have HZ := Lib.hid (show Z = ⟨(restW c F k (j + 1)).toArray⟩ by
                  rw [hro, ← hZ, ← hY, ← hS0, ← bs_ofR Y0, bt_catR, bt_catR])
                have hcv := conv_atJ (wr.alloc (.cells #[.int .u8 (c.toNat : Int)] 5)) c wr.heap.size (by rw [Lib.cell_of_heap (heap_alloc_new _ _)]; rfl)
                have hcv2 : (convert 53 9 (.slice (some ⟨wr.heap.size, 0, none⟩) 1 1)).run Tryd.prog (wr.alloc (.cells #[.int .u8 (c.toNat : Int)] 5)).drew = .ok (.string ⟨#[c]⟩) (wr.alloc (.cells #[.int .u8 (c.toNat : Int)] 5)).drew := conv_atJ _ c wr.heap.size (by show (wr.alloc _).cell? _ = _; rw [Lib.cell_of_heap (heap_alloc_new _ _)]; rfl)
                have hxa := pw_cell_below (bal (Below.refl wr.heap.size wr) (.cells #[.int .u8 (c.toNat : Int)] 5)) hx
                have hxb : (wr.alloc (.cells #[.int .u8 (c.toNat : Int)] 5)).drew.cell? (ad.add j) = some (.string Y0) := hxa
                clear hro hl hl2 hZ hY hS0s hYs hY0 hxs hjk
                rw [hS0]
                go_wp2_with fail
                go_region
                all_goals go_wp2
                exact ⟨⟨j + 1, hlt, by go_num, by rw [HZ.out], Lib.hid (bdr (bal hst.out _))⟩, by simp [intOf]; omega⟩
            · obtain rfl : j = F.length := by omega
              have hjr := HJR.out k hkl (by omega)
              have hXs : X.size ≤ 20000 := by rw [← HX.out.1]; have := HFS.out F[k] (List.getElem_mem hkl); omega
              rw [HX.out.1] at hjr
              obtain ⟨S0, hS0⟩ : ∃ S0 : ByteArray, (⟨(restW c F k F.length).toArray⟩ : ByteArray) = S0 := ⟨_, rfl⟩
              rw [hS0] at hjr ⊢
              have HJ := Lib.hid (fun A1 A2 w h1 h2 => joinR_calls a0 X k c S0 A1 A2 w (by omega) hXs h1 h2 hjr)
              have hx3 := pw_cell_below hst.out hx2
              have hx4 := pw_cell_below (bal (Below.refl wr.heap.size wr) (.cells #[.string a0] 9)) hx3
              have j1 := Kd.C_below (C_strs wr 9 [a0] (by simp)) (bal (Below.refl _ _) (.cells #[.string X] 9))
              have j2 := C_strs (wr.alloc (.cells #[.string a0] 9)) 9 [X] (by simp)
              rw [World.size_alloc] at j2
              have J := Lib.hid (And.intro j1 j2)
              have hkw : IntKind.i64.wrap ((k : Int) + 1) = (k : Int) + 1 := IntWalk.i64_in _ (by omega)
              have B3 := Lib.hid (bth B2.out (bal (bal hst.out (.cells #[.string a0] 9)) (.cells #[.string X] 9)))
              clear hjr hXs hS0 j1 j2
              go_wp2_with fail
              with_reducible refine (HJ.out _ _ _ J.out.1 J.out.2).mono ?_
              rintro e w4 ⟨⟨ad4, z4, rfl, hz4, hx5⟩, hb4⟩
              have B4 := Lib.hid (bth B3.out hb4)
              clear hb4
              go_wp2
              go_ret
              exact ⟨rfl, B4.out⟩
end Go.Proofs.YthkaekeelokajaaDoor.P
