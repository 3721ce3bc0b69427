/- What two sorted lists have alone and both: plain. -/
import Derived.Test.YtaekgfmcelckoaaDoorMergeAll
import Derived.Deep.AppendLies
import Derived.Handy
import Derived.RegionTactic
import Derived.Deep.QuietTactic
import Derived.BigQuiet
set_option linter.unusedVariables false
set_option linter.unusedSimpArgs false
namespace Go.Proofs.YtaekgfmcelckoaaDoor.P
open Go.RowKit Go.Proofs Go.Proofs.YtaekgfmcelckoaaDoor.Q Go.Proofs.YtaekgfmcelckoaaDoor.H Go.Proofs.YtaekgfmcelckoaaDoor.K Go.Proofs.YtaekgfmcelckoaaDoor.S Go.Proofs.YtaekgfmcelckoaaDoorW.PrintWords Go.Proofs.YtaekgfmcelckoaaDoorW.PrintLast

theorem lessCmp (x y : ByteArray) (h : Op.bytesLess x.toList y.toList = true) : cmpB x.data.toList y.data.toList = -1 := by
  unfold cmpB; rw [← Lib.toList_data, ← Lib.toList_data, if_pos h]
theorem less_eq (x y : ByteArray) (h : ¬ Op.bytesLess x.toList y.toList = true) (h2 : ¬ Op.bytesLess y.toList x.toList = true) : x = y := by
  have h3 : cmpB x.data.toList y.data.toList = 0 := by
    unfold cmpB; rw [← Lib.toList_data, ← Lib.toList_data, if_neg h, if_neg h2]
  exact K.ext_bytes ((cmpB_zero _ _).1 h3)
theorem whole_plain (x y : List UInt8) : wholeO false false false false 0 0 0 x y = cmpB x y := by
  have h7 : checkO 0 0 0 = true := s7
  have hk : ∀ z, keyO 0 0 0 z = z := fun z => by unfold keyO; rw [if_pos h7, if_pos rfl]
  unfold wholeO cmpO byO fitL
  rw [if_pos h7, hk, hk]
  simp [orC]
theorem asc_plain (l : List ByteArray) : Asc (wholeO false false false false 0 0 0) l ↔ Asc cmpB l := by
  unfold Asc
  simp only [whole_plain]
theorem comm_tells : ∀ (n : Nat) (a b : List ByteArray), a.length + b.length ≤ n → ((comm a b).1 ++ (comm a b).2.2).Perm a ∧ ((comm a b).2.1 ++ (comm a b).2.2).Perm b ∧ (comm a b).1.Sublist a ∧ (comm a b).2.1.Sublist b ∧ (comm a b).2.2.Sublist a
  | _, [], b, _ => by rw [comm_nil1]; exact ⟨by simp, by simp, by simp, List.Sublist.refl _, by simp⟩
  | _, x :: a, [], _ => by rw [comm_nil2]; exact ⟨by simp, by simp, List.Sublist.refl _, by simp, by simp⟩
  | 0, x :: a, y :: b, h => by simp at h
  | n + 1, x :: a, y :: b, h => by
    simp only [List.length_cons] at h
    rw [comm_cons]
    split
    · obtain ⟨h1, h2, h3, h4, h5⟩ := comm_tells n a (y :: b) (by simp; omega)
      exact ⟨by simpa using h1, h2, h3.cons_cons x, h4, h5.cons x⟩
    · split
      · obtain ⟨h1, h2, h3, h4, h5⟩ := comm_tells n (x :: a) b (by simp; omega)
        exact ⟨h1, by simpa using h2, h3, h4.cons_cons y, h5⟩
      · rename_i g1 g2
        obtain rfl := less_eq x y g1 g2
        obtain ⟨h1, h2, h3, h4, h5⟩ := comm_tells n a b (by omega)
        exact ⟨List.perm_middle.trans (h1.cons x), List.perm_middle.trans (h2.cons x), h3.cons x, h4.cons x, h5.cons_cons x⟩
theorem comm_apart : ∀ (n : Nat) (a b : List ByteArray), a.length + b.length ≤ n → Asc cmpB a → Asc cmpB b → ∀ x ∈ (comm a b).1, x ∉ (comm a b).2.1
  | _, [], b, _, _, _ => by rw [comm_nil1]; intro x h; cases h
  | _, x :: a, [], _, _, _ => by rw [comm_nil2]; intro x _ h; cases h
  | 0, x :: a, y :: b, h, _, _ => by simp at h
  | n + 1, x :: a, y :: b, h, ha, hb => by
    simp only [List.length_cons] at h
    obtain ⟨a1, a2⟩ := List.pairwise_cons.1 ha
    obtain ⟨b1, b2⟩ := List.pairwise_cons.1 hb
    rw [comm_cons]
    split
    · rename_i g1
      intro z hz hz2
      rcases List.mem_cons.1 hz with rfl | hz
      · have hm := (comm_tells n a (y :: b) (by simp; omega)).2.2.2.1.subset hz2
        have hc := lessCmp z y g1
        rcases List.mem_cons.1 hm with rfl | hm
        · rw [Ord.bytes.self] at hc; omega
        · have h1 := b1 z hm
          have := Ord.bytes.back y.data.toList z.data.toList
          omega
      · exact comm_apart n a (y :: b) (by simp; omega) a2 hb z hz hz2
    · split
      · rename_i g1 g2
        intro z hz hz2
        rcases List.mem_cons.1 hz2 with rfl | hz2
        · have hm := (comm_tells n (x :: a) b (by simp; omega)).2.2.1.subset hz
          have hc := lessCmp z x g2
          rcases List.mem_cons.1 hm with rfl | hm
          · rw [Ord.bytes.self] at hc; omega
          · have h1 := a1 z hm
            have := Ord.bytes.back x.data.toList z.data.toList
            omega
        · exact comm_apart n (x :: a) b (by simp; omega) ha b2 z hz hz2
      · exact comm_apart n a b (by omega) a2 b2
theorem C_restN {w W : World} {g i : Nat} {A p : Option Addr} {l : List ByteArray} (hA : 0 < l.length → A = some ⟨g, 0, none⟩) (h : Kd.C Kd.string w A l.length l) (hb : Below w.heap.size w W) (hp : i < l.length → p = some ⟨g, i, none⟩) : Kd.C Kd.string W p (l.drop i).length (l.drop i) := by
  refine ⟨rfl, by have := h.2.1; rw [List.length_drop]; omega, fun hn => ?_⟩
  rw [List.length_drop] at hn
  refine ⟨⟨g, i, none⟩, hp (by omega), fun j x hj => ⟨[.string x], rfl, rfl, fun t u ht => ?_⟩⟩
  obtain ⟨hlt, hx⟩ := List.getElem?_eq_some_iff.1 hj
  rw [List.length_drop] at hlt
  rw [List.getElem_drop] at hx
  have ht0 : t = 0 := by
    have := (List.getElem?_eq_some_iff.1 ht).1
    simpa using this
  subst ht0
  obtain ⟨ad, had, hc⟩ := C_at h hb (i + j) (by omega)
  rw [hA (by omega)] at had
  obtain rfl := Option.some.inj had
  rw [addr_at, hx] at hc
  rw [addr_at2, show Kd.string.sz = 1 from rfl, Nat.mul_one, Nat.add_zero, hc]
  exact ht
set_option maxHeartbeats 2000000 in
set_option maxRecDepth 100000 in
theorem commN_calls (A1 A2 : Option Addr) (g1 g2 c1 c2 : Nat) (l1 l2 : List ByteArray) (w : World) (hA1 : 0 < l1.length → A1 = some ⟨g1, 0, none⟩) (hA2 : 0 < l2.length → A2 = some ⟨g2, 0, none⟩) (h1 : Kd.C Kd.string w A1 l1.length l1) (h2 : Kd.C Kd.string w A2 l2.length l2) (k1 : l1.length ≤ c1) (k2 : l2.length ≤ c2) (hl : l1.length + l2.length ≤ 4000000) (hz1 : c1 ≤ maxLen) (hz2 : c2 ≤ maxLen) :
    Calls Tryd.prog 25 #[.slice A1 l1.length c1, .slice A2 l2.length c2] w fun e w' => ∃ x1 x2 x3, e = .returned (.tuple #[x1, x2, x3]) ∧ w'.ownsRow w.heap.size 9 1 x1 (comm l1 l2).1.length (strs (comm l1 l2).1) ∧ w'.ownsRow w.heap.size 9 1 x2 (comm l1 l2).2.1.length (strs (comm l1 l2).2.1) ∧ w'.ownsRow w.heap.size 9 1 x3 (comm l1 l2).2.2.length (strs (comm l1 l2).2.2) ∧ NeRow x1 x2 ∧ NeRow x1 x3 ∧ NeRow x2 x3 ∧ Below w.heap.size w w' := by
  obtain ⟨i0, hi, hzz0, hzz1, hzz2⟩ := info_parts infoS
  have HA1 := Lib.hid hA1
  have HA2 := Lib.hid hA2
  have H1 := Lib.hid h1
  have H2 := Lib.hid h2
  clear h1 h2 hA1 hA2
  go_enter Tryd.func25, Tryd.ntmps25
  go_wp2
  go_loopw [0, 1, 4, 5, 6] (fun a b v1 v2 v3 wr => ∃ (i k : Nat) (L1 L2 L3 : List ByteArray) (p1 p2 : Option Addr), i ≤ l1.length ∧ k ≤ l2.length ∧ a = .slice p1 (l1.length - i) (c1 - i) ∧ b = .slice p2 (l2.length - k) (c2 - k) ∧ (i < l1.length → p1 = some ⟨g1, i, none⟩) ∧ (k < l2.length → p2 = some ⟨g2, k, none⟩) ∧ Hid (CM w l1 l2 i k v1 v2 v3 L1 L2 L3 wr)) (fun a b _ _ _ _ => lenOf a + lenOf b)
  case atStart => exact ⟨0, 0, [], [], [], _, _, Nat.zero_le _, Nat.zero_le _, rfl, rfl, HA1.out, HA2.out, Lib.hid ⟨World.ownsRow_nil _ _ _ _, World.ownsRow_nil _ _ _ _, World.ownsRow_nil _ _ _ _, fun _ h => by simp [Value.ownBlock] at h, fun _ h => by simp [Value.ownBlock] at h, fun _ h => by simp [Value.ownBlock] at h, Below.refl _ _, rfl, by simp⟩⟩
  case round =>
    obtain ⟨i, k, L1, L2, L3, p1, p2, hi1, hk1, rfl, rfl, hp1, hp2, hst⟩ := hrel
    by_cases hboth : i < l1.length ∧ k < l2.length
    · obtain ⟨hi2, hk2⟩ := hboth
      · obtain rfl := hp1 hi2
        obtain rfl := hp2 hk2
        obtain ⟨ad1, ha1, hx⟩ := C_at H1.out hst.out.low i hi2
        obtain rfl := Option.some.inj ((HA1.out (by omega)).symm.trans ha1)
        obtain ⟨ad2, ha2, hy⟩ := C_at H2.out hst.out.low k hk2
        obtain rfl := Option.some.inj ((HA2.out (by omega)).symm.trans ha2)
        obtain ⟨x, hxe⟩ : ∃ x, l1[i] = x := ⟨_, rfl⟩
        obtain ⟨y, hye⟩ : ∃ y, l2[k] = y := ⟨_, rfl⟩
        rw [hxe] at hx
        rw [hye] at hy
        have hx' : wr.cell? ⟨g1, i, none⟩ = some (.string x) := by rw [← hx, addr_at]
        have hy' : wr.cell? ⟨g2, k, none⟩ = some (.string y) := by rw [← hy, addr_at]
        obtain ⟨m1, hm1⟩ : ∃ m, l1.length - i = m + 1 := ⟨l1.length - i - 1, by omega⟩
        obtain ⟨m2, hm2⟩ : ∃ m, l2.length - k = m + 1 := ⟨l2.length - k - 1, by omega⟩
        obtain ⟨d1, hd1⟩ : ∃ m, c1 - i = m + 1 := ⟨c1 - i - 1, by omega⟩
        obtain ⟨d2, hd2⟩ : ∃ m, c2 - k = m + 1 := ⟨c2 - k - 1, by omega⟩
        rw [hm1, hm2, hd1, hd2]
        have e1 : m1 ≤ d1 := by omega
        have e2 : m2 ≤ d2 := by omega
        have e3 : d1 ≤ 9223372036854775807 := by unfold maxLen at hz1; omega
        have e4 : d2 ≤ 9223372036854775807 := by unfold maxLen at hz2; omega
        clear hx hy
        go_wp2_with fail
        go_quiet ((go_at_call 38; exact Calls.quiet_of_same (compareS_walk _ _ _)))
        have ST := Lib.hid (hst.out.below (bdn' (Below.refl _ _) nq))
        have hx2 : (wr.drewN nq).cell? ⟨g1, i, none⟩ = some (.string x) := hx'
        have hy2 : (wr.drewN nq).cell? ⟨g2, k, none⟩ = some (.string y) := hy'
        clear hx' hy'
        generalize wr.drewN nq = wq at ST hx2 hy2 ⊢
        clear nq
        have hlen := ST.out.len
        have hsz := ST.out.low.size
        have e5 : L1.length ≤ 4000000 := by omega
        have e6 : L2.length ≤ 4000000 := by omega
        have e7 : L3.length ≤ 4000000 := by omega
        cases hb1 : Op.bytesLess x.toList y.toList with
        | true =>
          have hcm : cmpB x.data.toList y.data.toList = -1 := by
            unfold cmpB; rw [← Lib.toList_data, ← Lib.toList_data, if_pos hb1]
          rw [hcm]
          have HO := Lib.hid ST.out.o1
          clear hcm hlen
          go_wp2_with fail
          have t1 : (1 : Int) ≤ (m1 : Int) + 1 := by omega
          have t2 : (1 : Int) ≤ (m2 : Int) + 1 := by omega
          have xd : wq.drew.cell? ⟨g1, i, none⟩ = some (.string x) := hx2
          go_region_law (refine step_append_lies _ rfl (.tmp 36) (.tmp 40) 22 rfl w.heap.size 9 i0 _ 1 16 Tryd.underlying22 hi hzz0 hzz1 hzz2 rfl (by decide) _ L1.length (strs L1) (by simp [Act.eval, Act.put]) ((HO.out).drew.alloc _) ⟨wq.heap.size, 0, none⟩ 1 1 [.string x] (by simp [Act.eval, Act.put]) rfl (by exact World.news_of_block (heap_alloc_new wq.drew _)) (by simp [Value.oneCell']) (by decide) (by unfold maxLen; omega) (by omega) (by simp; omega) _ rfl ?_; intro g cap w5 hown5 hgrow5 hat5 hlt5)
          have NEW := Lib.hid (CM.app1 ST.out hi2 hk2 hxe hye hb1 hown5 hgrow5 hat5)
          generalize hq : (if d1 = 0 then some (⟨g1, i, none⟩ : Addr) else some ⟨g1, i + 1, none⟩) = q
          have P1 := Lib.hid (show i + 1 < l1.length → q = some ⟨g1, i + 1, none⟩ from fun h => by rw [← hq]; exact if_neg (by omega))
          clear hq
          clear hown5 hgrow5 hat5 hlt5 xd hx2 hy2
          simp only [List.getElem_toArray, List.getElem_cons_succ, List.getElem_cons_zero, Act.put, List.setIfInBounds_toArray, List.set_cons_zero, List.set_cons_succ]
          go_wp2
          go_roundw
          case rel => exact ⟨i + 1, k, L1 ++ [x], L2, L3, _, _, by omega, hk1, by rw [show l1.length - (i + 1) = m1 by omega, show c1 - (i + 1) = d1 by omega], by rw [hm2, hd2], P1.out, fun _ => rfl, NEW⟩
          case measure => simp only [lenOf_slice]; omega
        | false =>
          cases hb2 : Op.bytesLess y.toList x.toList with
          | true =>
            have hcm : cmpB x.data.toList y.data.toList = 1 := by
              unfold cmpB; rw [← Lib.toList_data, ← Lib.toList_data, if_neg (by rw [hb1]; decide), if_pos hb2]
            rw [hcm]
            have HO := Lib.hid ST.out.o2
            clear hcm hlen
            go_wp2_with fail
            have t1 : (1 : Int) ≤ (m1 : Int) + 1 := by omega
            have t2 : (1 : Int) ≤ (m2 : Int) + 1 := by omega
            have xd : wq.drew.cell? ⟨g2, k, none⟩ = some (.string y) := hy2
            go_region_law (refine step_append_lies _ rfl (.tmp 47) (.tmp 51) 22 rfl w.heap.size 9 i0 _ 1 16 Tryd.underlying22 hi hzz0 hzz1 hzz2 rfl (by decide) _ L2.length (strs L2) (by simp [Act.eval, Act.put]) ((HO.out).drew.alloc _) ⟨wq.heap.size, 0, none⟩ 1 1 [.string y] (by simp [Act.eval, Act.put]) rfl (by exact World.news_of_block (heap_alloc_new wq.drew _)) (by simp [Value.oneCell']) (by decide) (by unfold maxLen; omega) (by omega) (by simp; omega) _ rfl ?_; intro g cap w5 hown5 hgrow5 hat5 hlt5)
            have NEW := Lib.hid (CM.app2 ST.out hi2 hk2 hxe hye hb1 hb2 hown5 hgrow5 hat5)
            generalize hq : (if d2 = 0 then some (⟨g2, k, none⟩ : Addr) else some ⟨g2, k + 1, none⟩) = q
            have P1 := Lib.hid (show k + 1 < l2.length → q = some ⟨g2, k + 1, none⟩ from fun h => by rw [← hq]; exact if_neg (by omega))
            clear hq
            clear hown5 hgrow5 hat5 hlt5 xd hx2 hy2
            simp only [List.getElem_toArray, List.getElem_cons_succ, List.getElem_cons_zero, Act.put, List.setIfInBounds_toArray, List.set_cons_zero, List.set_cons_succ]
            go_wp2
            go_roundw
            case rel => exact ⟨i, k + 1, L1, L2 ++ [y], L3, _, _, hi1, by omega, by rw [hm1, hd1], by rw [show l2.length - (k + 1) = m2 by omega, show c2 - (k + 1) = d2 by omega], fun _ => rfl, P1.out, NEW⟩
            case measure => simp only [lenOf_slice]; omega
          | false =>
            have hcm : cmpB x.data.toList y.data.toList = 0 := by
              unfold cmpB; rw [← Lib.toList_data, ← Lib.toList_data, if_neg (by rw [hb1]; decide), if_neg (by rw [hb2]; decide)]
            rw [hcm]
            have HO := Lib.hid ST.out.o3
            clear hcm hlen
            go_wp2_with fail
            have t1 : (1 : Int) ≤ (m1 : Int) + 1 := by omega
            have t2 : (1 : Int) ≤ (m2 : Int) + 1 := by omega
            have xd : wq.drew.cell? ⟨g1, i, none⟩ = some (.string x) := hx2
            go_region_law (refine step_append_lies _ rfl (.tmp 23) (.tmp 27) 22 rfl w.heap.size 9 i0 _ 1 16 Tryd.underlying22 hi hzz0 hzz1 hzz2 rfl (by decide) _ L3.length (strs L3) (by simp [Act.eval, Act.put]) ((HO.out).drew.alloc _) ⟨wq.heap.size, 0, none⟩ 1 1 [.string x] (by simp [Act.eval, Act.put]) rfl (by exact World.news_of_block (heap_alloc_new wq.drew _)) (by simp [Value.oneCell']) (by decide) (by unfold maxLen; omega) (by omega) (by simp; omega) _ rfl ?_; intro g cap w5 hown5 hgrow5 hat5 hlt5)
            have NEW := Lib.hid (CM.app3 ST.out hi2 hk2 hxe hye hb1 hb2 hown5 hgrow5 hat5)
            generalize hq : (if d1 = 0 then some (⟨g1, i, none⟩ : Addr) else some ⟨g1, i + 1, none⟩) = q
            have P1 := Lib.hid (show i + 1 < l1.length → q = some ⟨g1, i + 1, none⟩ from fun h => by rw [← hq]; exact if_neg (by omega))
            clear hq
            generalize hq : (if d2 = 0 then some (⟨g2, k, none⟩ : Addr) else some ⟨g2, k + 1, none⟩) = q2
            have P2 := Lib.hid (show k + 1 < l2.length → q2 = some ⟨g2, k + 1, none⟩ from fun h => by rw [← hq]; exact if_neg (by omega))
            clear hq
            clear hown5 hgrow5 hat5 hlt5 xd hx2 hy2
            simp only [List.getElem_toArray, List.getElem_cons_succ, List.getElem_cons_zero, Act.put, List.setIfInBounds_toArray, List.set_cons_zero, List.set_cons_succ]
            go_wp2
            go_roundw
            case rel => exact ⟨i + 1, k + 1, L1, L2, L3 ++ [x], _, _, by omega, by omega, by rw [show l1.length - (i + 1) = m1 by omega, show c1 - (i + 1) = d1 by omega], by rw [show l2.length - (k + 1) = m2 by omega, show c2 - (k + 1) = d2 by omega], P1.out, P2.out, NEW⟩
            case measure => simp only [lenOf_slice]; omega
    · have hend := hst.out.end_ (by omega)
      obtain ⟨q1, r1, rfl, hr1, C1⟩ := reads_own' hst.out.o1
      obtain ⟨q2, r2, rfl, hr2, C2⟩ := reads_own' hst.out.o2
      obtain ⟨q3, r3, rfl, hr3, C3⟩ := reads_own' hst.out.o3
      have D1 := Lib.hid (C_restN (i := i) HA1.out H1.out hst.out.low hp1)
      have D2 := Lib.hid (C_restN (i := k) HA2.out H2.out hst.out.low hp2)
      have CC1 := Lib.hid C1
      have CC2 := Lib.hid C2
      have HEND := Lib.hid hend
      have hlen := hst.out.len
      obtain ⟨m1, hm1⟩ : ∃ m, l1.length - i = m := ⟨_, rfl⟩
      obtain ⟨m2, hm2⟩ : ∃ m, l2.length - k = m := ⟨_, rfl⟩
      have hd1 : (l1.drop i).length = m1 := by rw [List.length_drop, hm1]
      have hd2 : (l2.drop k).length = m2 := by rw [List.length_drop, hm2]
      rw [hm1, hm2]
      have HD := Lib.hid (And.intro hd1 hd2)
      have s1 : L1.length + m1 ≤ 8000000 := by omega
      have s2 : L2.length + m2 ≤ 8000000 := by omega
      have s3 : m1 ≤ c1 - i := by omega
      have s4 : m2 ≤ c2 - k := by omega
      have hmz : m1 = 0 ∨ (0 < m1 ∧ m2 = 0) := by omega
      clear hend C1 C2 C3 hd1 hd2 hp1 hp2 hboth
      rcases hmz with rfl | ⟨n1, rfl⟩
      · go_wp2_with fail
        have hS1 := Lib.hid (Below.refl wr.heap.size wr)
        have ra := concat_calls wr.heap.size q1 p1 L1.length r1 0 (c1 - i) L1 (l1.drop i) (wr.alloc (.cells #[.slice q1 L1.length r1, .slice p1 0 (c1 - i)] 22)) (by simp) ((cellAt (heap_alloc_new wr _) 0).trans rfl) ((cellAt (heap_alloc_new wr _) 1).trans rfl) rfl HD.out.1 (Kd.C_below CC1.out (bal hS1.out _)) (Kd.C_below D1.out (bal hS1.out _)) hr1 s3 s1
        refine ra.mono ?_
        rintro e w6 ⟨x1, rfl, ho6, hb6⟩
        have b6 := Lib.hid (bth (bal hS1.out _) hb6)
        have p2' := Lib.hid (pw_own_below hst.out.o2 b6.out)
        have p3' := Lib.hid (pw_own_below hst.out.o3 b6.out)
        have n62 := Lib.hid (ne_below ho6 (hst.out.o2.alloc _))
        have n63 := Lib.hid (ne_below ho6 (hst.out.o3.alloc _))
        have O6 := Lib.hid ho6
        clear ho6 hb6 ra
        go_wp2_with fail
        have hS2 := Lib.hid (Below.refl w6.heap.size w6)
        have rb := concat_calls w6.heap.size q2 p2 L2.length r2 m2 (c2 - k) L2 (l2.drop k) (w6.alloc (.cells #[.slice q2 L2.length r2, .slice p2 m2 (c2 - k)] 22)) (by simp) ((cellAt (heap_alloc_new w6 _) 0).trans rfl) ((cellAt (heap_alloc_new w6 _) 1).trans rfl) rfl HD.out.2 (Kd.C_below (Kd.C_below CC2.out b6.out) (bal hS2.out _)) (Kd.C_below (Kd.C_below D2.out b6.out) (bal hS2.out _)) hr2 s4 s2
        refine rb.mono ?_
        rintro e w8 ⟨x2, rfl, ho8, hb8⟩
        have b8 := Lib.hid (bth (bal hS2.out _) hb8)
        have n86 := Lib.hid (ne_below ho8 (O6.out.alloc _))
        have n83 := Lib.hid (ne_below ho8 (p3'.out.alloc _))
        have O8 := Lib.hid ho8
        clear ho8 hb8 rb
        go_wp2
        go_returns
        have z1 := hst.out.low.size
        have z2 := b6.out.size
        refine ⟨x1, x2, .slice q3 L3.length r3, rfl, ?_⟩
        have e1 : L1.length + 0 = (L1 ++ l1.drop i).length := by rw [List.length_append, HD.out.1]
        have e2 : L2.length + m2 = (L2 ++ l2.drop k).length := by rw [List.length_append, HD.out.2]
        rw [HEND.out]
        have o6 := O6.out
        have o8 := O8.out
        rw [e1] at o6
        rw [e2] at o8
        exact ⟨own_weaken (pw_own_below o6 b8.out) (by simp; omega), own_weaken o8 (by simp; omega), pw_own_below p3'.out b8.out, ne_symm n86.out, n63.out, n83.out, bth (bth hst.out.low b6.out) b8.out⟩
      · go_wp2_with fail
        have hS1 := Lib.hid (Below.refl wr.heap.size wr)
        have ra := concat_calls wr.heap.size q1 p1 L1.length r1 m1 (c1 - i) L1 (l1.drop i) (wr.alloc (.cells #[.slice q1 L1.length r1, .slice p1 m1 (c1 - i)] 22)) (by simp) ((cellAt (heap_alloc_new wr _) 0).trans rfl) ((cellAt (heap_alloc_new wr _) 1).trans rfl) rfl HD.out.1 (Kd.C_below CC1.out (bal hS1.out _)) (Kd.C_below D1.out (bal hS1.out _)) hr1 s3 s1
        refine ra.mono ?_
        rintro e w6 ⟨x1, rfl, ho6, hb6⟩
        have b6 := Lib.hid (bth (bal hS1.out _) hb6)
        have p2' := Lib.hid (pw_own_below hst.out.o2 b6.out)
        have p3' := Lib.hid (pw_own_below hst.out.o3 b6.out)
        have n62 := Lib.hid (ne_below ho6 (hst.out.o2.alloc _))
        have n63 := Lib.hid (ne_below ho6 (hst.out.o3.alloc _))
        have O6 := Lib.hid ho6
        clear ho6 hb6 ra
        go_wp2_with fail
        have hS2 := Lib.hid (Below.refl w6.heap.size w6)
        have rb := concat_calls w6.heap.size q2 p2 L2.length r2 0 (c2 - k) L2 (l2.drop k) (w6.alloc (.cells #[.slice q2 L2.length r2, .slice p2 0 (c2 - k)] 22)) (by simp) ((cellAt (heap_alloc_new w6 _) 0).trans rfl) ((cellAt (heap_alloc_new w6 _) 1).trans rfl) rfl HD.out.2 (Kd.C_below (Kd.C_below CC2.out b6.out) (bal hS2.out _)) (Kd.C_below (Kd.C_below D2.out b6.out) (bal hS2.out _)) hr2 s4 s2
        refine rb.mono ?_
        rintro e w8 ⟨x2, rfl, ho8, hb8⟩
        have b8 := Lib.hid (bth (bal hS2.out _) hb8)
        have n86 := Lib.hid (ne_below ho8 (O6.out.alloc _))
        have n83 := Lib.hid (ne_below ho8 (p3'.out.alloc _))
        have O8 := Lib.hid ho8
        clear ho8 hb8 rb
        go_wp2
        go_returns
        have z1 := hst.out.low.size
        have z2 := b6.out.size
        refine ⟨x1, x2, .slice q3 L3.length r3, rfl, ?_⟩
        have e1 : L1.length + m1 = (L1 ++ l1.drop i).length := by rw [List.length_append, HD.out.1]
        have e2 : L2.length + 0 = (L2 ++ l2.drop k).length := by rw [List.length_append, HD.out.2]
        rw [HEND.out]
        have o6 := O6.out
        have o8 := O8.out
        rw [e1] at o6
        rw [e2] at o8
        exact ⟨own_weaken (pw_own_below o6 b8.out) (by simp; omega), own_weaken o8 (by simp; omega), pw_own_below p3'.out b8.out, ne_symm n86.out, n63.out, n83.out, bth (bth hst.out.low b6.out) b8.out⟩
end Go.Proofs.YtaekgfmcelckoaaDoor.P
