/- The book with lists of lists: more is put behind the list of lists. -/
import Derived.Test.YtlicjpbmlmongaaDoorRk5
set_option linter.unusedVariables false
set_option linter.unusedSimpArgs false
namespace Go.Proofs.YtlicjpbmlmongaaDoor.H
open Go.RowKit Go.Proofs.YtlicjpbmlmongaaDoorW.PrintWords Go.Proofs

/-- Marks stay where a row of slices is written. -/
theorem Mks.rowed {N b n : Nat} {ms : List Nat} {W W' : World} {v : Value} {base : Nat} {xs : List Value} (h : Mks N b ms W) (ho : W.ownsRow base 25 1 v n xs) (hg : W.grownBy W' v.ownBlock) : Mks N b ms W' := fun g hm => ⟨(h g hm).1, (hg.block g (Array.getElem?_eq_some_iff.1 (h g hm).2).1 (fun e => by
  rcases ho.2 with ⟨rfl, _⟩ | ⟨g', cap', cur, rfl, _, hc, _⟩
  · cases e
  · have e' : g = g' := by simpa [Value.ownBlock] using e
    subst e'
    have := (h g hm).2
    unfold MarkAt at this
    rw [this] at hc
    injection hc with hc
    injection hc with _ hc _
    exact absurd hc (by decide))).trans (h g hm).2⟩
/-- Rows of texts stay. -/
def KpS (w W : World) : Prop := ∀ (base : Nat) (v : Value) (n : Nat) (xs : List Value), w.ownsRow base 9 1 v n xs → W.ownsRow base 9 1 v n xs
theorem KpS.below {w W W' : World} (h : KpS w W) (hb : Below W.heap.size W W') : KpS w W' := fun base v n xs ho => pw_own_below (h base v n xs ho) hb
theorem KpS.rowed {w W W' : World} {base n s e : Nat} {v : Value} {xs : List Value} (h : KpS w W) (he : 9 ≠ e) (ho : W.ownsRow base e s v n xs) (hg : W.grownBy W' v.ownBlock) : KpS w W' := fun b u m ys hu => own_other (h b u m ys hu) hg (own_type_ne (h b u m ys hu) ho he)
/-- What stands when more is put behind the list of lists. -/
structure GrowR (B0 Bk : Nat) (T TR : Value) (m : Nat) (L : List Held) (N G n cap : Nat) (w W : World) : Prop where
  ex : ∃ (gl cl : Nat) (ms ms2 : List Nat), BookR Bk T TR m L [⟨.slice (some ⟨G, 0, none⟩) n cap, .slice (some ⟨gl, 0, none⟩) (n + 40) cl, N⟩] W ∧ ms.length = n ∧ ms2.length = 40 ∧ Mks N 0 ms W ∧ Mks N 0 ms2 W ∧
    W.ownsRow B0 25 1 (.slice (some ⟨G, 0, none⟩) n cap) n (mrk ms) ∧ W.ownsRow B0 25 1 (.slice (some ⟨gl, 0, none⟩) (n + 40) cl) (n + 40) (mrk ms ++ mrk ms2)
  low : Below B0 w W
  kp : KpS w W
set_option maxHeartbeats 4000000 in
set_option maxRecDepth 100000 in
theorem growRowR_calls (B0 Bk : Nat) (T TR : Value) (m : Nat) (L : List Held) (N G n cap : Nat) (ms : List Nat) (w : World) (hP : ∀ V, Below B0 w V → PW V) (hB : BookR Bk T TR m L [⟨.slice (some ⟨G, 0, none⟩) n cap, .slice none 0 0, N⟩] w) (hN : N ≤ 1000000) (hn : n ≤ 1000000) (hG : G < Bk) (hms : Mks N 0 ms w) (hml : ms.length = n) (hR : w.ownsRow B0 25 1 (.slice (some ⟨G, 0, none⟩) n cap) n (mrk ms)) (h0 : B0 ≤ Bk) :
    Calls Tryd.prog 35 #[.pointer (some ⟨Bk, 0, none⟩)] w fun e w' => e = .returned (.tuple #[]) ∧ GrowR B0 Bk T TR m L N G n cap w w' := by
  obtain ⟨i0, hi, hz0, hz1, hz2⟩ := info_parts infoR
  have HB := Lib.hid hB
  have HR := Lib.hid hR
  have HP := Lib.hid hP
  have HM := Lib.hid (And.intro hms hml)
  have hBk := blk_lt hB.at_
  have hGb := own_blk hR
  have c5 : w.cell? ⟨Bk, 5, none⟩ = some TR := blk_cell' hB.at_ 5
  obtain ⟨gT, cT, rfl, hgb, hgl⟩ := hB.ownR.form (by simp)
  have HE := Lib.hid (row_entry hB)
  have hn63 : n ≤ 9223372036854775807 := by omega
  clear hB hR hP hms hml
  go_enter Tryd.func35, Tryd.ntmps35
  go_wp2
  go_loopw [2] (fun i wr => (i = .int .i64 0 ∧ Hid (w = wr)) ∨ (i = .int .i64 1 ∧ Hid (GrowR B0 Bk T (.slice (some ⟨gT, 0, none⟩) 1 cT) m L N G n cap w wr))) (fun i _ => 1 - (intOf i).toNat)
  case atStart => exact .inl ⟨rfl, Lib.hid rfl⟩
  case round =>
    rcases hrel with ⟨rfl, hw⟩ | ⟨rfl, hF⟩
    · have hw' := hw.out
      subst hw'
      clear hw
      obtain ⟨e0, e1, e2⟩ := HE.out
      go_wp2
      obtain ⟨W0, hW0⟩ : ∃ W0, w.alloc (Obj.cells #[Value.slice (some ⟨G, 0, none⟩) n cap, Value.slice none 0 0, Value.int IntKind.i64 (N : Int)] 62) = W0 := ⟨_, rfl⟩
      have hblk : W0.heap[w.heap.size]? = some (.cells #[Value.slice (some ⟨G, 0, none⟩) n cap, Value.slice none 0 0, Value.int IntKind.i64 (N : Int)] 62 (0, 0)) := by rw [← hW0]; exact World.alloc_heap_new w _
      have hb0 : Below w.heap.size w W0 := by rw [← hW0]; exact bal (Below.refl _ _) _
      have HBLK := Lib.hid hblk
      have HB0 := Lib.hid hb0
      have HRow0 := Lib.hid (pw_own_below HR.out hb0)
      rw [hW0]
      clear hW0 hblk hb0 c5 e0 e1 e2
      go_loopw [4, 5] (fun uv kv wi => ∃ k : Nat, k ≤ 40 ∧ kv = .int .i64 (k : Int) ∧ Hid (∃ ms2 : List Nat, ms2.length = k ∧ Mks N 0 ms2 wi ∧ Mks N 0 ms wi ∧ wi.ownsRow B0 25 1 uv (n + k) (mrk ms ++ mrk ms2) ∧ wi.ownsRow B0 25 1 (.slice (some ⟨G, 0, none⟩) n cap) n (mrk ms) ∧ W0.grownBy wi (some G) ∧ (uv.ownBlock = some G ∨ ∃ c, uv.ownBlock = some c ∧ W0.heap.size ≤ c) ∧ KpS w wi)) (fun _ kv _ => 40 - (intOf kv).toNat)
      case atStart => exact ⟨0, Nat.zero_le _, rfl, Lib.hid ⟨[], rfl, (show Mks N 0 [] W0 from fun g hg => by simp at hg), HM.out.1.below HB0.out, by simpa [mrk] using HRow0.out, HRow0.out, World.grownBy.refl _ _, .inl rfl, KpS.below (fun _ _ _ _ h => h) HB0.out⟩⟩
      case round =>
        obtain ⟨k, hk, rfl, hst⟩ := hrel
        obtain ⟨ms2, hml2, hm2, hm1, hu, hv, hgr, hub, hkp⟩ := hst.out
        have hwz : w.heap.size < wr.heap.size := by have := blk_lt HBLK.out; have := hgr.size; omega
        have hGw : G < w.heap.size := hGb.2
        have hb1 : wr.heap[w.heap.size]? = some (.cells #[Value.slice (some ⟨G, 0, none⟩) n cap, Value.slice none 0 0, Value.int IntKind.i64 (N : Int)] 62 (0, 0)) :=
          (hgr.block _ (blk_lt HBLK.out) (by intro e; injection e with e; omega)).trans HBLK.out
        have q0 := blk_cell' hb1 0
        have q2 := blk_cell' hb1 2
        simp only [List.getElem?_toArray, List.getElem?_cons_zero, List.getElem?_cons_succ] at q0 q2
        have hlo : Below B0 w wr := (HB0.out.mono (by omega)).grown hgr (by have := HB0.out.size; omega) (fun b hb => by injection hb with hb; omega)
        obtain ⟨ua, uc, hue⟩ := own_slice hu
        subst hue
        by_cases hkl : k < 40
        · have HMK := Lib.hid (markRow_any N hN wr (HP.out wr hlo))
          have HST := Lib.hid (And.intro hml2 (And.intro hm2 (And.intro hm1 (And.intro hu (And.intro hv (And.intro hgr (And.intro hub hkp)))))))
          clear hml2 hm2 hm1 hu hv hgr hub hkp hlo hb1 hst
          go_wp2_with fail
          with_reducible refine HMK.out.mono ?_
          rintro e w9 ⟨g9, rfl, hg9, hm9, hbq⟩
          have HI9 := Lib.hid (show Mks N 0 (ms2 ++ [g9]) w9 ∧ Mks N 0 ms w9 ∧ w9.ownsRow B0 25 1 (.slice ua (n + k) uc) (n + k) (mrk ms ++ mrk ms2) ∧ w9.ownsRow B0 25 1 (.slice (some ⟨G, 0, none⟩) n cap) n (mrk ms) ∧ W0.grownBy w9 (some G) ∧ KpS w w9 from
            ⟨fun g hg => by
              rcases List.mem_append.1 hg with h | h
              · exact HST.out.2.1.below hbq g h
              · rw [List.mem_singleton.1 h]; exact ⟨Nat.zero_le _, hm9⟩, HST.out.2.2.1.below hbq, pw_own_below HST.out.2.2.2.1 hbq, pw_own_below HST.out.2.2.2.2.1 hbq, World.grownBy.trans HST.out.2.2.2.2.2.1 (grown_of_below hbq _), HST.out.2.2.2.2.2.2.2.below hbq⟩)
          have hz9 : wr.heap.size ≤ w9.heap.size := hbq.size
          have hz0 : W0.heap.size ≤ wr.heap.size := HST.out.2.2.2.2.2.1.size
          have hzz : B0 ≤ w9.heap.size := by omega
          clear hbq hm9 HMK
          go_wp2_with (at_builtin; go_loud (refine wpList_append_two _ rfl _ _ 22 rfl B0 25 i0 _ 24 Tryd.underlying22 hi ‹i0.zero = _› hz1 hz2 rfl _ (n + k) _ rfl (HI9.out.2.2.1.alloc _) ⟨w9.heap.size, 0, none⟩ 1 (.slice (some ⟨g9, 0, none⟩) 1 1) rfl (Boxed.new w9 _ _).cell rfl (by unfold maxLen; omega) (by omega) (by simp; omega) ?_))
          intro g3 cap3 w3 hown3 hcase
          have HN1 := Lib.hid (show ∃ ms2' : List Nat, ms2'.length = k + 1 ∧ Mks N 0 ms2' w3 ∧ Mks N 0 ms w3 ∧ w3.ownsRow B0 25 1 (.slice (some ⟨g3, 0, none⟩) (n + (k + 1)) cap3) (n + (k + 1)) (mrk ms ++ mrk ms2') ∧ w3.ownsRow B0 25 1 (.slice (some ⟨G, 0, none⟩) n cap) n (mrk ms) ∧ W0.grownBy w3 (some G) ∧ ((Value.slice (some ⟨g3, 0, none⟩) (n + (k + 1)) cap3).ownBlock = some G ∨ ∃ c, (Value.slice (some ⟨g3, 0, none⟩) (n + (k + 1)) cap3).ownBlock = some c ∧ W0.heap.size ≤ c) ∧ KpS w w3 from by
            obtain ⟨z1, z2, z3, z4, z5, z6⟩ := HI9.out
            have hbl := bal (Below.refl w9.heap.size w9) (Obj.cells #[Value.slice (some ⟨g9, 0, none⟩) 1 1] 25)
            have e : mrk ms ++ (mrk ms2 ++ [Value.slice (some ⟨g9, 0, none⟩) 1 1]) = mrk ms ++ mrk (ms2 ++ [g9]) := by rw [mrk_app]; rfl
            rw [e] at hown3
            have hv := short_after (pw_own_below z4 hbl) (pw_own_below z3 hbl) (List.prefix_append _ _) (by rw [mrk_app, ← List.append_assoc]; exact List.prefix_append _ _) hown3 (by omega) hcase
            refine ⟨ms2 ++ [g9], by rw [List.length_append, HST.out.1]; rfl, ?_, ?_, hown3, hv, ?_, ?_, ?_⟩
            · rcases hcase with ⟨h1, h2⟩ | ⟨h1, h2⟩
              · exact (z1.below hbl).rowed (pw_own_below z3 hbl) (by rw [h1]; exact h2)
              · exact (z1.below hbl).below h2
            · rcases hcase with ⟨h1, h2⟩ | ⟨h1, h2⟩
              · exact (z2.below hbl).rowed (pw_own_below z3 hbl) (by rw [h1]; exact h2)
              · exact (z2.below hbl).below h2
            · have ha := World.grownBy.trans z5 (grown_of_below hbl (some G))
              rcases hcase with ⟨h1, h2⟩ | ⟨h1, h2⟩
              · refine grown_more ha h2 ?_
                rcases HST.out.2.2.2.2.2.2.1 with h | ⟨c, h, hc⟩
                · rw [h1] at h; exact .inl h
                · rw [h1] at h; right; simp [Value.ownBlock] at h; omega
              · exact World.grownBy.trans ha (grown_of_below h2 _)
            · rcases hcase with ⟨h1, h2⟩ | ⟨h1, h2⟩
              · rcases HST.out.2.2.2.2.2.2.1 with h | ⟨c, h, hc⟩
                · rw [h1] at h; exact .inl h
                · rw [h1] at h; exact .inr ⟨c, h, hc⟩
              · right
                refine ⟨g3, rfl, ?_⟩
                rw [h1]; simp; omega
            · rcases hcase with ⟨h1, h2⟩ | ⟨h1, h2⟩
              · exact (z6.below hbl).rowed (by decide) (pw_own_below z3 hbl) (by rw [h1]; exact h2)
              · exact (z6.below hbl).below h2)
          clear hown3 hcase q0 q2
          go_wp2
          go_roundw
          case rel => exact ⟨k + 1, by omega, by go_num, HN1⟩
          case measure => simp [intOf]; omega
        · obtain rfl : k = 40 := by omega
          obtain ⟨gu, cu, hue, hgu, hgul⟩ := hu.form (by omega)
          injection hue with hu1 _ hu2
          subst hu1 hu2
          have hbk : BookR Bk T (.slice (some ⟨gT, 0, none⟩) 1 cT) m L [⟨.slice (some ⟨G, 0, none⟩) n cap, .slice none 0 0, N⟩] wr := by
            refine book_keepsR HB.out (World.grownBy.trans (grown_of_below HB0.out (some G)) hgr) (fun b hb => by injection hb with hb; omega)
          have c5 : wr.cell? ⟨Bk, 5, none⟩ = some (.slice (some ⟨gT, 0, none⟩) 1 cT) := blk_cell' hbk.at_ 5
          obtain ⟨_, e1, _⟩ := row_entry hbk
          have f1 : wr.frozen? ⟨gT, 1, none⟩ = false := hbk.ownR.frozenAt _
          have HF := Lib.hid (show GrowR B0 Bk T (.slice (some ⟨gT, 0, none⟩) 1 cT) m L N G n cap w (wr.setCell ⟨gT, 1, none⟩ (.slice (some ⟨gu, 0, none⟩) (n + 40) uc)) from by
            obtain ⟨hs1, hs2⟩ := hbk.ownR.stored 1 (.slice (some ⟨gu, 0, none⟩) (n + 40) uc)
            have hgT := own_base hbk.ownR gT rfl
            have hne : ∀ {e' b' s' n' : Nat} {v' : Value} {xs' : List Value}, 62 ≠ e' → wr.ownsRow b' e' s' v' n' xs' → (wr.setCell ⟨gT, 1, none⟩ (.slice (some ⟨gu, 0, none⟩) (n + 40) uc)).ownsRow b' e' s' v' n' xs' := fun {e' b' s' n' v' xs'} he ho => own_other ho hs2 (own_type_ne ho hbk.ownR (Ne.symm he))
            have hmk : ∀ {l : List Nat}, Mks N 0 l wr → Mks N 0 l (wr.setCell ⟨gT, 1, none⟩ (.slice (some ⟨gu, 0, none⟩) (n + 40) uc)) := fun {l} h g hm => ⟨Nat.zero_le _, (hs2.block g (Array.getElem?_eq_some_iff.1 (h g hm).2).1 (fun e => by
              injection e with e
              rcases hbk.ownR.2 with ⟨h', _⟩ | ⟨g', cap', cur, h', _, hc, _⟩
              · cases h'
              · injection h' with h' _ _
                injection h' with h'
                injection h' with h'
                subst h' e
                have := (h g hm).2
                unfold MarkAt at this
                rw [this] at hc
                injection hc with hc
                injection hc with _ hc _
                exact absurd hc (by decide))).trans (h g hm).2⟩
            refine ⟨⟨gu, uc, ms, ms2, ⟨(hs2.block Bk (blk_lt hbk.at_) (by intro e; injection e with e; omega)).trans hbk.at_, hne (by decide) hbk.own, ?_⟩, HM.out.2, hml2, hmk hm1, hmk hm2, hne (by decide) hv, hne (by decide) hu⟩, hlo.setCell (p := ⟨gT, 1, none⟩) (by show B0 ≤ gT; omega) _, KpS.rowed hkp (by decide) hbk.ownR hs2⟩
            exact hs1)
          clear hml2 hm2 hm1 hu hv hgr hub hkp hlo hb1 hst hbk q0 q2
          go_wp2
          go_roundw
          case rel => exact .inr ⟨rfl, HF⟩
          case measure => simp [intOf]
    · obtain ⟨gl, cl, ms1, ms2, hbk, _⟩ := hF.out.ex
      have c5 : wr.cell? ⟨Bk, 5, none⟩ = some (.slice (some ⟨gT, 0, none⟩) 1 cT) := blk_cell' hbk.at_ 5
      clear hbk
      go_wp2
      go_end0
      exact ⟨rfl, hF.out⟩
end Go.Proofs.YtlicjpbmlmongaaDoor.H
