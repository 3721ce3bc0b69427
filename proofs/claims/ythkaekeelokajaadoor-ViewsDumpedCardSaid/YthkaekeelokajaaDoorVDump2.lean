/- views.Dump: the walk. -/
import Derived.Test.YthkaekeelokajaaDoorVDump
set_option linter.unusedVariables false
set_option linter.unusedSimpArgs false
namespace Go.Proofs.YthkaekeelokajaaDoor.C
open Go.RowKit Go.Shelf Go.BigFrame Go.Proofs Go.Proofs.YthkaekeelokajaaDoor.H Go.Proofs.YthkaekeelokajaaDoor.B Go.Proofs.YthkaekeelokajaaDoor.Oct Go.Proofs.YthkaekeelokajaaDoorW.PrintWords

attribute [local go_sem] Oper.semAt_some
theorem own_base_le {w : World} {base e size n : Nat} {v : Value} {xs : List Value} (h : w.ownsRow base e size v n xs) {b : Nat} (hb : b < base) : v.ownBlock = none ∨ v.ownBlock ≠ some b := by
  rcases h.2 with ⟨rfl, _⟩ | ⟨g, cap, cur, rfl, hg, _⟩
  · exact .inl rfl
  · refine .inr fun e => ?_
    obtain rfl : g = b := by simpa [Value.ownBlock] using e
    omega
theorem bF_heap {T e : TypeId} {B b : Nat} {p : Value} {bs : List Value} {w V : World} (h : Lib.BuilderAtF T e B b p bs w) (hV : V.heap = w.heap) : Lib.BuilderAtF T e B b p bs V := by
  unfold Lib.BuilderAtF World.ownsRowF at *
  rw [hV]
  exact h
/-- The state in the last region: the counter's box and the loop's own block lie as they lay. -/
structure RS (w : World) (D b n : Nat) (V : World) : Prop where
  low : Below w.heap.size w V
  box : Boxed V b 3 (.int .i64 (n : Int))
  dd : V.heap[D]? = some (.deferred (some []))
theorem RS.on {w : World} {D b n : Nat} {V V' : World} (h : RS w D b n V) (hb : Below V.heap.size V V') : RS w D b n V' :=
  ⟨bth h.low hb, (hb.block _ h.box.lt).trans h.box, (hb.block _ (Array.getElem?_eq_some_iff.1 h.dd).1).trans h.dd⟩
theorem RS.all {w : World} {D b n : Nat} {V : World} (h : RS w D b n V) : RS w D b n V ∧ V.cell? ⟨b, 0, none⟩ = some (.int .i64 (n : Int)) := ⟨h, h.box.cell⟩
set_option maxHeartbeats 4000000 in
set_option maxRecDepth 100000 in
theorem dump_in (F : Fence) (n : Nat) (hF : Fence.wide = F) (hn : 4 ≤ n) (s : ByteArray) (hs : s.size ≤ 100000000) (w : World) (hT : TzW w) :
    CallsIn F n Tryd.prog 24 #[.string s] w fun e w' => e = .returned (.string ⟨(dumpL s.data.toList).toArray⟩) ∧ Below w.heap.size w w' := by
  have h1 : 1 ≤ n := by omega
  have hro : F.round = none := by rw [← hF]; rfl
  have hfn : ∀ k, F.fn k := fun k => by rw [← hF]; trivial
  have hcF : F.fn 24 := hfn _
  have hcC : F.fn 77 := hfn _
  have hcC1 : F.fn 121 := hfn _
  have hcO : F.fn 79 := hfn _
  have hcS : F.fn 78 := hfn _
  have hcB : F.fn 80 := hfn _
  have HO7 := Lib.hid (show ∀ (m k : Nat) (W : World), k < 8 ^ 14 → TzW W → CallsIn F m Tryd.prog 79 #[.int .i64 (k : Int), .int .i64 7] W fun e w' => e = .returned (.string ⟨(octP k 7).toArray⟩) ∧ Below W.heap.size W w' from fun m k W a c => by rw [← hF]; exact callsIn_wide.2 (octal_calls k 7 a (by decide) W c))
  have HO3 := Lib.hid (show ∀ (m k : Nat) (W : World), k < 8 ^ 14 → TzW W → CallsIn F m Tryd.prog 79 #[.int .i64 (k : Int), .int .i64 3] W fun e w' => e = .returned (.string ⟨(octP k 3).toArray⟩) ∧ Below W.heap.size W w' from fun m k W a c => by rw [← hF]; exact callsIn_wide.2 (octal_calls k 3 a (by decide) W c))
  have HWS := Lib.hid (show ∀ (m N b : Nat) (bs : List Value) (t : ByteArray) (W : World), BAt N b bs W → bs.length + t.size ≤ 140737488355328 → b < N → N ≤ W.heap.size → CallsIn F m Tryd.prog 78 #[.pointer (some ⟨b, 0, none⟩), .string t] W fun e w' => e = .returned (.tuple #[.int .i64 t.size, .nilIface]) ∧ BK N b (bs ++ Lib.strCells t) W w' from fun m N b bs t W a1 a2 a3 a4 => by rw [← hF]; exact callsIn_wide.2 (writeStringK N b bs t W a1 a2 a3 a4))
  have HWB := Lib.hid (show ∀ (m N b : Nat) (bs : List Value) (c : Int) (W : World), BAt N b bs W → bs.length + 1 ≤ 140737488355328 → b < N → N ≤ W.heap.size → CallsIn F m Tryd.prog 80 #[.pointer (some ⟨b, 0, none⟩), .int .u8 c] W fun e w' => e = .returned .nilIface ∧ BK N b (bs ++ [.int .u8 c]) W w' from fun m N b bs c W a1 a2 a3 a4 => by rw [← hF]; exact callsIn_wide.2 (writeByteK N b bs c W a1 a2 a3 a4))
  have HF := Lib.hid hF
  have HT := Lib.hid hT
  have hsl : s.data.toList.length = s.size := (Lib.size_eq s).symm
  have HSL := Lib.hid hsl
  clear hfn hF hT hsl
  refine callsIn_of_wp_marks Tryd.func24 rfl hcF ?_ hro
  simp only [Tryd.ntmps24, List.size_toArray, List.length_cons, List.length_nil, Nat.reduceAdd, Nat.reduceSub, Array.replicate_succ, Array.replicate_zero, List.push_toArray, List.append_toArray, List.nil_append, List.cons_append]
  gi_wp2_with (gi_at_call 77; refine (chunk_in F (n - 1) hcC hro _ _ _ _).mono ?_; rintro e w' ⟨rfl, rfl⟩)
  obtain ⟨W2, hW2⟩ : ∃ W2, (w.alloc (Obj.cells #[Value.pointer none, Value.slice none 0 0] 82)).alloc (Obj.cells #[Value.int IntKind.i64 0] 3) = W2 := ⟨_, rfl⟩
  have z2 : W2.heap.size = w.heap.size + 2 := by rw [← hW2]; simp
  have b2 : Below w.heap.size w W2 := by rw [← hW2]; exact bal (bal (Below.refl _ _) _) _
  have c0 : W2.heap[w.heap.size]? = some (.cells #[.pointer none, .slice none 0 0] 82 (0, 0)) := by
    rw [← hW2, Lib.alloc_old _ _ _ (by simp)]; exact World.alloc_heap_new w _
  have c1 : Boxed W2 (w.heap.size + 1) 3 (.int .i64 0) := by
    rw [← hW2]
    have := Boxed.new (w.alloc (Obj.cells #[Value.pointer none, Value.slice none 0 0] 82)) 3 (Value.int IntKind.i64 0)
    rw [World.size_alloc] at this
    exact this
  rw [hW2]
  obtain ⟨W3, hW3⟩ : ∃ W3, Lib.bytesWorld W2 5 s = W3 := ⟨_, rfl⟩
  have z3 : W3.heap.size = w.heap.size + 3 := by rw [← hW3, Lib.bytesWorld_size, z2]
  have b3 : Below w.heap.size w W3 := by rw [← hW3]; exact bby b2 _ _
  have o3 : ∀ i, i < W2.heap.size → W3.heap[i]? = W2.heap[i]? := fun i hi => by rw [← hW3]; exact Lib.bytesWorld_at_old W2 _ s i hi
  have y3 : ∀ j (h : j < s.size), W3.cell? ⟨w.heap.size + 2, j, none⟩ = some (.int .u8 ((s.data.toList[j]'(by rw [← Lib.size_eq]; exact h)).toNat : Int)) := fun j h => by
    have := Lib.bytesWorld_cell W2 5 s j h
    rw [hW3, z2] at this
    rw [this, List.getD_eq_getElem?_getD, List.getElem?_eq_getElem (by rw [← Lib.size_eq]; exact h)]; rfl
  have hcap := grownCap_ge W2 s.size 0 5
  have hcap2 := grownCap_le_maxLen W2 s.size 0 5 (by unfold maxLen; omega)
  rw [hW3, z3]
  obtain ⟨c, hc⟩ : ∃ c, grownCap W2 s.size 0 5 = c := ⟨_, rfl⟩
  rw [hc] at hcap hcap2 ⊢
  obtain ⟨W0, hW0⟩ : ∃ W0, (W3.alloc (Obj.cells #[Value.slice (some { block := w.heap.size + 1 + 1, off := 0 }) s.size c] 53)).alloc (Obj.cells #[Value.int IntKind.i64 16] 3) = W0 := ⟨_, rfl⟩
  have z0 : W0.heap.size = w.heap.size + 5 := by rw [← hW0]; simp; omega
  have b0 : Below w.heap.size w W0 := by rw [← hW0]; exact bal (bal b3 _) _
  have o0 : ∀ i, i < w.heap.size + 3 → W0.heap[i]? = W3.heap[i]? := fun i hi => by rw [← hW0, Lib.alloc_old _ _ _ (by simp; omega), Lib.alloc_old _ _ _ (by omega)]
  have bS : Boxed W0 (w.heap.size + 3) 53 (.slice (some ⟨w.heap.size + 2, 0, none⟩) s.size c) := by
    rw [← hW0]
    have := Boxed.new W3 53 (Value.slice (some { block := w.heap.size + 1 + 1, off := 0 }) s.size c)
    rw [z3] at this
    exact this.alloc _
  have bN : Boxed W0 (w.heap.size + 3 + 1) 3 (.int .i64 16) := by
    rw [← hW0]
    have := Boxed.new (W3.alloc (Obj.cells #[Value.slice (some { block := w.heap.size + 1 + 1, off := 0 }) s.size c] 53)) 3 (Value.int IntKind.i64 16)
    rw [World.size_alloc, z3] at this
    exact this
  rw [hW0]
  have hst0 : DSt w W0 (w.heap.size + 5) w.heap.size 0 [] W0 := ⟨(o0 _ (by omega)).trans ((o3 _ (by omega)).trans c1), ⟨_, _, .inl rfl, (o0 _ (by omega)).trans ((o3 _ (by omega)).trans c0), World.ownsRow_nil _ _ _ _⟩, rfl, b0, by omega⟩
  have HST0 := Lib.hid hst0
  have HY := Lib.hid (show ∀ j (h : j < s.size), W0.cell? ⟨w.heap.size + 2, j, none⟩ = some (.int .u8 ((s.data.toList[j]'(by rw [← Lib.size_eq]; exact h)).toNat : Int)) from fun j h => (World.cell?_of_block (o0 (w.heap.size + 2) (by omega))).trans (y3 j h))
  clear hW2 hW3 hW0 c0 c1 z2 z3 b2 b3 o3 y3 o0 hst0
  refine wpIn_rangeFunc_box hro h1 (gf := 121) (lb := #[.pointer (some ⟨w.heap.size + 3, 0, none⟩), .pointer (some ⟨w.heap.size + 3 + 1, 0, none⟩)]) rfl hcC1 (enters_of Tryd.func121 (by kernel_rfl) rfl) (Bs := w.heap.size + 3) (by omega)
    (chunk_seq F (n - 1) hcC1 hro (by omega) (w.heap.size + 3) (w.heap.size + 3 + 1) (w.heap.size + 2) s.size c hs hcap (by unfold maxLen at hcap2; omega) W0 bS bN)
    KpD.trans (fun W l o' hl => ⟨World.putObj_heap_other (by omega), World.putObj_heap_other (by omega), by simp⟩) (fun _ => rfl)
    (fun pre W => DSt w W0 (w.heap.size + 5) w.heap.size (dmp s.data.toList (pre.map (·.1))).2 (dmp s.data.toList (pre.map (·.1))).1 W)
    ?hI ?hIs HST0.out
    (fun x => { tmps := #[.string s, undef, .string ⟨#[]⟩, .pointer (some ⟨w.heap.size, 0, none⟩), .pointer (some ⟨w.heap.size + 1, 0, none⟩), partV (w.heap.size + 2) s.size x, undef, undef, .string s, .slice (some ⟨w.heap.size + 1 + 1, 0, none⟩) s.size c, .func (.func 121) #[] #[.pointer (some ⟨w.heap.size + 3, 0, none⟩), .pointer (some ⟨w.heap.size + 3 + 1, 0, none⟩)], partV (w.heap.size + 2) s.size x, undef, undef, undef, undef, undef, undef, undef, undef, undef, undef, undef, undef, undef, undef, undef, undef, undef, undef, undef, undef, undef, undef, undef, undef, undef], defers := [] }) ?assign ?body ?done
  case hI => exact fun pre A B row h hg hr => h.grown (by omega) (by omega) hg (fun r e => by have := hr r e; rw [z0] at this; exact this)
  case hIs =>
    intro pre A v h
    have hsz := h.size
    exact ⟨(Below.heap_setCell _ _ _ _ (by show w.heap.size + 1 ≠ w.heap.size + 3; omega)).trans h.at_, by
        obtain ⟨p, q, hp, hk, ho⟩ := h.bld
        exact ⟨p, q, hp, (Below.heap_setCell _ _ _ _ (by show w.heap.size ≠ w.heap.size + 3; omega)).trans hk, own_other ho (grownBy_setCell' A (w.heap.size + 3) v) (own_base_le ho (by omega))⟩,
      (Below.heap_setCell _ _ _ _ (by show w.heap.size + 2 ≠ w.heap.size + 3; omega)).trans h.byt, h.low.setCell (p := ⟨w.heap.size + 3, 0, none⟩) (by show w.heap.size ≤ w.heap.size + 3; omega) v, by simpa [World.setCell] using h.size⟩
  case assign =>
    intro l x W K hK
    gi_wp2
    exact hK
  case body =>
    rintro l pre ⟨i, hi⟩ W hst hlt
    have hbd := dmp_len s.data.toList (by rw [HSL.out]; have : (8 : Nat) ^ 14 = 4398046511104 := rfl; omega) (pre.map (·.1)) (by rw [List.length_map]; omega)
    rw [List.length_map] at hbd
    have hgoal : dmp s.data.toList ((pre ++ [(⟨i, hi⟩ : Pl s.size)]).map (·.1)) = dmpF s.data.toList (dmp s.data.toList (pre.map (·.1))) i := by rw [List.map_append]; exact dmp_snoc _ _ _
    obtain ⟨⟨out, a⟩, hd⟩ : ∃ R, dmp s.data.toList (pre.map (·.1)) = R := ⟨_, rfl⟩
    rw [hd] at hst hbd hgoal
    have hst' : DSt w W0 (w.heap.size + 5) w.heap.size a out W := hst
    have hbd' : out.length ≤ 100 * pre.length ∧ a ≤ 16 * pre.length := hbd
    have HG := Lib.hid hgoal
    have HST := Lib.hid hst'
    have hp0 : partV (w.heap.size + 2) s.size ⟨i, hi⟩ = .slice (some ⟨w.heap.size + 2, i, none⟩) (min 16 (s.size - i)) (min 16 (s.size - i)) := rfl
    rw [hp0]
    obtain ⟨e, hee⟩ : ∃ e, min 16 (s.size - i) = e := ⟨_, rfl⟩
    rw [hee]
    have HE := Lib.hid hee
    have ca := hst'.at_.cell
    have hal : a < 8 ^ 14 := by have : (8 : Nat) ^ 14 = 4398046511104 := rfl; omega
    have HA := Lib.hid (And.intro hal (And.intro hbd' (And.intro hlt hi)))
    clear hst hst' hgoal hp0 hee hd hbd hbd' hal hlt
    gi_wp2_with fail
    refine ⟨fun _ => by omega, (CallsIn.inRound l (HO7.out _ a _ HA.out.1 ?_)).mono ?_⟩
    · exact (HST.out.low.cell (block_lt_of_cell HT.out)).trans HT.out
    rintro e1 w1 ⟨rfl, hb1⟩
    have B1 := Lib.hid hb1
    have S1 := Lib.hid (HST.out.below HST.out.low.size hb1 (by omega))
    clear hb1 ca
    gi_wp2_with fail
    have hol := oct_len 14 a HA.out.1 (by decide)
    refine ⟨fun _ => by omega, (CallsIn.inRound l (HWS.out _ (w.heap.size + 5) w.heap.size (Lib.byteCells out) _ _ S1.out.bld ?_ (by omega) S1.out.size)).mono ?_⟩
    · rw [Lib.byteCells_length, bt_size, octP_len]; have := HA.out.2.1.1; have := HA.out.2.2.1; omega
    rintro e2 w2 ⟨rfl, hk2⟩
    rw [str_byte, ← byte_app] at hk2
    have S2 := Lib.hid (S1.out.bk hk2 (by omega) (Nat.le_refl _))
    have B2 := Lib.hid ((SB.of_below (N := w.heap.size + 5) (b := w.heap.size) B1.out HST.out.size).trans (SB.of_bk hk2))
    clear hk2 S1 B1
    gi_wp2
    have hl0 := HSL.out
    have he16 : e ≤ 16 := by have := HE.out; omega
    gi_loopw [17] (fun v wr => ∃ k : Nat, k ≤ e ∧ v = .int .i64 (k : Int) ∧ Hid (DSt w W0 (w.heap.size + 5) w.heap.size a (out ++ octP a 7 ++ rowL ((s.data.toList.drop i).take k)) wr ∧ SB (w.heap.size + 5) w.heap.size W wr)) (fun v _ => e - (intOf v).toNat)
    case atStart => exact ⟨0, Nat.zero_le _, rfl, Lib.hid ⟨by simpa [rowL] using S2.out, B2.out⟩⟩
    case round =>
      obtain ⟨k, hk, rfl, hr⟩ := hrel
      by_cases hlt : k < e
      · have hik : i + k < s.size := by have := HE.out; omega
        have hcell : wr.cell? ⟨w.heap.size + 2, i + k, none⟩ = some (.int .u8 ((s.data.toList[i + k]'(by rw [← Lib.size_eq]; exact hik)).toNat : Int)) := (World.cell?_of_block hr.out.1.byt).trans (HY.out (i + k) hik)
        have hrow : rowL ((s.data.toList.drop i).take (k + 1)) = rowL ((s.data.toList.drop i).take k) ++ 32 :: octP (s.data.toList[i + k]'(by rw [← Lib.size_eq]; exact hik)).toNat 3 := by
          rw [List.take_succ_eq_append_getElem (by rw [List.length_drop, hl0]; omega)]
          unfold rowL
          rw [List.flatMap_append]
          simp
        have hrl : (rowL ((s.data.toList.drop i).take k)).length ≤ 4 * k := by rw [rowL_len, List.length_take]; omega
        obtain ⟨ch, hch⟩ : ∃ ch, s.data.toList[i + k]'(by rw [← Lib.size_eq]; exact hik) = ch := ⟨_, rfl⟩
        rw [hch] at hcell hrow
        have ho3 := oct_len 3 ch.toNat (by have := ch.toNat_lt; omega) (by decide)
        have hadd := fun t => (show binOp .add t (.string ⟨#[32]⟩) (.string ⟨(octP ch.toNat 3).toArray⟩) = pure (.string ⟨(32 :: octP ch.toNat 3).toArray⟩) from bt_add [32] (octP ch.toNat 3) t (by rw [octP_len, List.length_singleton]; omega))
        have HLT := Lib.hid hlt
        have HX := Lib.hid (And.intro hrow (And.intro hrl (And.intro ho3 hik)))
        clear hch hrow hrl ho3 hik
        have hcb : (ch.toNat : Int) ≤ 255 := by have := ch.toNat_lt; omega
        have hcb0 : 0 ≤ (ch.toNat : Int) := by omega
        gi_wp2_with fail
        refine ⟨fun _ => by omega, (CallsIn.inRound l (HO3.out _ ch.toNat _ ?_ ?_)).mono ?_⟩
        · have : (8 : Nat) ^ 14 = 4398046511104 := rfl
          have := ch.toNat_lt
          omega
        · exact (hr.out.1.low.cell (block_lt_of_cell HT.out)).trans HT.out
        rintro e3 w3 ⟨rfl, hb3⟩
        have S3 := Lib.hid (hr.out.1.below hr.out.1.low.size hb3 (by omega))
        have B3 := Lib.hid (hr.out.2.trans (SB.of_below hb3 hr.out.1.size))
        clear hb3 hcell
        gi_wp2_with fail
        refine ⟨fun _ => by omega, (CallsIn.inRound l (HWS.out _ (w.heap.size + 5) w.heap.size (Lib.byteCells _) _ _ S3.out.bld ?_ (by omega) S3.out.size)).mono ?_⟩
        · rw [Lib.byteCells_length, bt_size, List.length_append, List.length_append, octP_len, List.length_cons, octP_len]
          have := HA.out.2.1.1; have := HA.out.2.2.1; have := HX.out.2.1; have := HX.out.2.2.1; have := HE.out; omega
        rintro e4 w4 ⟨rfl, hk4⟩
        rw [str_byte, ← byte_app, List.append_assoc (out ++ octP a 7), ← HX.out.1] at hk4
        have S4 := Lib.hid (And.intro (S3.out.bk hk4 (by omega) (Nat.le_refl _)) (B3.out.trans (SB.of_bk hk4)))
        clear hk4 S3 B3
        gi_wp2
        go_roundw
        case rel =>
          have h0 := HLT.out
          exact ⟨k + 1, by omega, by go_num, S4⟩
        case measure => have := HLT.out; simp [intOf]; omega
      · obtain rfl : k = e := by omega
        have hkb : k = min 16 (s.size - i) := HE.out.symm
        have hrl : (rowL ((s.data.toList.drop i).take k)).length ≤ 4 * k := by rw [rowL_len, List.length_take]; omega
        have HRL := Lib.hid (And.intro hkb hrl)
        clear hkb hrl
        gi_wp2_with fail
        refine ⟨fun _ => by omega, (CallsIn.inRound l (HWB.out _ (w.heap.size + 5) w.heap.size (Lib.byteCells _) 10 _ hr.out.1.bld ?_ (by omega) hr.out.1.size)).mono ?_⟩
        · rw [Lib.byteCells_length, List.length_append, List.length_append, octP_len]
          have := HA.out.2.1.1; have := HA.out.2.2.1; have := HRL.out.2; have := HRL.out.1; omega
        rintro e3 w3 ⟨rfl, hk3⟩
        have hk3' : BK (w.heap.size + 5) w.heap.size (Lib.byteCells (out ++ octP a 7 ++ rowL ((s.data.toList.drop i).take k) ++ [10])) wr w3 := by rw [byte_app _ [10]]; exact hk3
        have S3 := Lib.hid (hr.out.1.bk hk3' (by omega) (Nat.le_refl _))
        have B3 := Lib.hid (hr.out.2.trans (SB.of_bk hk3))
        clear hk3 hk3'
        have ca := S3.out.at_.cell
        have fa := S3.out.at_.frozen
        have hk16 : (k : Int) ≤ 16 := by have := HRL.out.1; omega
        have hk0 : 0 ≤ (k : Int) := by omega
        have ha0 : 0 ≤ (a : Int) := by omega
        have hab : (a : Int) ≤ 1600000016 := by have := HA.out.2.1.2; have := HA.out.2.2.1; omega
        gi_wp2
        refine ⟨(B3.out.trans (SB.of_set _ _ _ _)).keeps.from _, ?_, ?_⟩
        · have hb := B3.out.trans (SB.of_set (w.heap.size + 5) w.heap.size w3 (.int .i64 ((a : Int) + (k : Int))))
          exact ⟨hb.same _ (by omega) (by omega) (by omega), hb.same _ (by omega) (by omega) (by omega), hb.keeps.size⟩
        · have hp := S3.out.put (a + k) (Nat.le_refl _)
          rw [show ((a + k : Nat) : Int) = (a : Int) + (k : Int) by omega] at hp
          show DSt w W0 (w.heap.size + 5) w.heap.size _ _ _
          rw [HG.out]
          have e1 : (s.data.toList.drop i).take 16 = (s.data.toList.drop i).take k := by
            have hld : (s.data.toList.drop i).length = s.size - i := by rw [List.length_drop, hl0]
            rcases Nat.lt_or_ge (s.size - i) 16 with h | h
            · rw [List.take_of_length_le (by omega), List.take_of_length_le (by rw [HRL.out.1]; omega)]
            · rw [show k = 16 by rw [HRL.out.1]; omega]
          simp only [dmpF]
          rw [e1, hl0, ← HRL.out.1]
          exact hp
  case done =>
    rintro D xs W hD hxs hst hK
    rw [hxs] at hst
    have hlen : s.size = s.data.toList.length := HSL.out.symm
    rw [hlen, dmp_all] at hst
    have hst' : DSt w W0 (w.heap.size + 5) w.heap.size s.data.toList.length (rows 0 s.data.toList) W := hst
    rw [HSL.out] at hst'
    have hB := hst'.low
    have hbld := hst'.bld.is (by omega)
    have ca := hst'.at_.cell
    have HBX := Lib.hid hst'.at_
    have HB := Lib.hid (And.intro hB (And.intro hbld hK))
    clear hst hst' hK hbld hB hxs hlen hc
    gi_wp2
    have hF := HF.out
    rw [← hF]
    refine wpIn_wide.2 ?_
    have HH : Hid (RS w D (w.heap.size + 1) s.size W) := Lib.hid ⟨HB.out.1, HBX.out, HB.out.2.2⟩
    have HOC := Lib.hid (show ∀ (V : World), RS w D (w.heap.size + 1) s.size V → Calls Tryd.prog 79 #[.int .i64 (s.size : Int), .int .i64 7] V fun e w' => e = .returned (.string ⟨(octP s.size 7).toArray⟩) ∧ (RS w D (w.heap.size + 1) s.size w' ∧ w'.cell? ⟨w.heap.size + 1, 0, none⟩ = some (.int .i64 (s.size : Int))) from fun V h => (octal_calls s.size 7 (by have : (8 : Nat) ^ 14 = 4398046511104 := rfl; omega) (by decide) V ((h.low.cell (block_lt_of_cell HT.out)).trans HT.out)).mono fun e w' q => ⟨q.1, (h.on q.2).all⟩)
    have HSC := Lib.hid (show ∀ (V : World), V.heap = W.heap → RS w D (w.heap.size + 1) s.size V → Calls Tryd.prog 81 #[.pointer (some ⟨w.heap.size, 0, none⟩)] V fun e w' => e = .returned (.string ⟨(rows 0 s.data.toList).toArray⟩) ∧ (RS w D (w.heap.size + 1) s.size w' ∧ w'.cell? ⟨w.heap.size + 1, 0, none⟩ = some (.int .i64 (s.size : Int))) from fun V hV h => (Tryd.Builder_String_any_k w.heap.size w.heap.size _ V (by
        obtain hb | hb := HB.out.2.1
        · refine .inl ?_
          have := Lib.BuilderAtF.of hb
          exact bF_heap this hV
        · refine .inr ?_
          have := Lib.BuilderAtF.of hb
          exact bF_heap this hV) h.low.size).mono fun e w' q => ⟨q.1, RS.all ⟨h.low.trans q.2.2.1, q.2.2.2 _ _ h.box (by intro e; injection e with e; omega) (fun c fz e => by injection e with e1 e2; cases e2), q.2.2.2 _ _ h.dd (by intro e; injection e with e; rw [e] at hD; omega) (fun c fz e => by cases e)⟩⟩)
    have hrl := dmp_len s.data.toList (by rw [HSL.out]; have : (8 : Nat) ^ 14 = 4398046511104 := rfl; omega) (starts s.data.toList.length) (by unfold starts; rw [List.length_map, List.length_range, HSL.out]; omega)
    rw [dmp_all] at hrl
    have hrl2 : (rows 0 s.data.toList).length ≤ 1000000000 := by
      have h1 := hrl.1
      unfold starts at h1
      rw [List.length_map, List.length_range, HSL.out] at h1
      have h2 : (rows 0 s.data.toList).length ≤ 100 * ((s.size + 15) / 16) := h1
      omega
    have hol := oct_len 14 s.size (by have : (8 : Nat) ^ 14 = 4398046511104 := rfl; omega) (by decide)
    have hadd1 := fun t => bt_add (rows 0 s.data.toList) (octP s.size 7) t (by rw [octP_len]; omega)
    have hadd2 := fun t => (show binOp .add t (.string ⟨(rows 0 s.data.toList ++ octP s.size 7).toArray⟩) (.string ⟨#[10]⟩) = pure (.string ⟨(rows 0 s.data.toList ++ octP s.size 7 ++ [10]).toArray⟩) from bt_add (rows 0 s.data.toList ++ octP s.size 7) [10] t (by rw [List.length_append, octP_len, List.length_singleton]; omega))
    clear hrl hrl2 hol
    go_region_held3 (fun w' => RS w D (w.heap.size + 1) s.size w' ∧ w'.cell? ⟨w.heap.size + 1, 0, none⟩ = some (.int .i64 (s.size : Int))) (with_reducible first | assumption | exact RS.all (RS.on HH.out (bdr (Below.refl _ _))) | exact RS.all HH.out) ((first
      | (go_at_call 81; with_reducible refine (HSC.out _ (by first | exact heap_drew _ | rfl) (by first | exact (show RS w _ _ _ _ ∧ _ from by assumption).1 | exact RS.on HH.out (bdr (Below.refl _ _)) | exact HH.out)).mono ?_; rintro e w' ⟨rfl, hbq⟩)
      | (go_at_call 79; with_reducible refine (HOC.out _ (by first | exact (show RS w _ _ _ _ ∧ _ from by assumption).1 | exact RS.on HH.out (bdr (Below.refl _ _)) | exact HH.out)).mono ?_; rintro e w' ⟨rfl, hbq⟩)))
    all_goals gi_wp2
    have hR := (show RS w D (w.heap.size + 1) s.size _ ∧ _ from by assumption).1
    refine ⟨by simp, .inl ⟨_, _, rfl, run_takeDeferred hR.dd, ?_⟩⟩
    refine ⟨_, results_tmp rfl _ _ _, ?_, hR.low.trans (belowK_b (w := w) (Nat.le_refl _) _ D _ _ (by omega) hR.dd rfl rfl)⟩
    unfold dumpL
    rw [HSL.out, List.append_assoc]
    rfl
theorem dump_calls (s : ByteArray) (hs : s.size ≤ 100000000) (w : World) (hT : TzW w) :
    Calls Tryd.prog 24 #[.string s] w fun e w' => e = .returned (.string ⟨(dumpL s.data.toList).toArray⟩) ∧ Below w.heap.size w w' :=
  callsIn_wide.1 (dump_in Fence.wide 4 rfl (by decide) s hs w hT)
end Go.Proofs.YthkaekeelokajaaDoor.C
