/- The book with lists of lists: the lists of texts are looked at. -/
import Derived.Test.YtlicjpbmlmongaaDoorRk6
set_option linter.unusedVariables false
set_option linter.unusedSimpArgs false
namespace Go.Proofs.YtlicjpbmlmongaaDoor.H
open Go.RowKit Go.Proofs.YtlicjpbmlmongaaDoorW.PrintWords Go.Proofs

def LookOKR (B0 : Nat) (h : Held) (w : World) : Prop := ∃ n : Nat, n ≤ 8796093022000 ∧ h.n ≤ 1000000 ∧ w.ownsRow B0 9 1 h.v n (strs (List.replicate n (markS h.n))) ∧ w.ownsRow B0 9 1 h.long (n + 40) (strs (List.replicate (n + 40) (markS h.n)))
theorem book_belowR {Bk m : Nat} {T TR : Value} {L LR : List Held} {W W1 : World} (h : BookR Bk T TR m L LR W) (hb : Below W.heap.size W W1) : BookR Bk T TR m L LR W1 := ⟨(hb.block _ (blk_lt h.at_)).trans h.at_, pw_own_below h.own hb, pw_own_below h.ownR hb⟩
set_option maxHeartbeats 4000000 in
set_option maxRecDepth 100000 in
theorem lookTextR_calls (B0 Bk : Nat) (T TR : Value) (m : Nat) (L LR : List Held) (w : World) (hP : ∀ V, Below w.heap.size w V → PW V) (hB : BookR Bk T TR m L LR w) (hL : L.length ≤ 100000) (hK : ∀ i, i < L.length → LookOKR B0 (L.getD i zH) w) :
    Calls Tryd.prog 45 #[.pointer (some ⟨Bk, 0, none⟩)] w fun e w' => e = .returned (.bool true) ∧ Below w.heap.size w w' := by
  have HB := Lib.hid hB
  have HK := Lib.hid hK
  have HP := Lib.hid hP
  clear hB hK hP
  go_enter Tryd.func45, Tryd.ntmps45
  go_wp2
  go_loopw [3] (fun i wr => ∃ k : Nat, k ≤ L.length ∧ i = .int .i64 k ∧ Hid (Below w.heap.size w wr)) (fun i _ => L.length - (intOf i).toNat)
  case atStart => exact ⟨0, Nat.zero_le _, rfl, Lib.hid (Below.refl _ _)⟩
  case round =>
    obtain ⟨i, hi, rfl, hr⟩ := hrel
    have hbk := Lib.hid (book_belowR HB.out hr.out)
    have c3 : wr.cell? ⟨Bk, 3, none⟩ = some T := blk_cell' hbk.out.at_ 3
    by_cases hlt : i < L.length
    · obtain ⟨g, cap, rfl, hgb, hgl⟩ := HB.out.own.form (by omega)
      obtain ⟨e0, e1, e2⟩ := book_entryR hbk.out i hlt
      obtain ⟨n, hn, hN, ho1, ho2⟩ := HK.out i hlt
      obtain ⟨a1, c1, h1⟩ := own_slice ho1
      obtain ⟨a2, c2, h2⟩ := own_slice ho2
      obtain ⟨V, hV⟩ : ∃ V, L.getD i zH = V := ⟨_, rfl⟩
      rw [hV] at e0 e1 e2 ho1 ho2 h1 h2 hN
      obtain ⟨v, lg, N⟩ := V
      simp only at e0 e1 e2 ho1 ho2 h1 h2 hN
      subst h1 h2
      have HO1 := Lib.hid (pw_own_below ho1 hr.out)
      have HO2 := Lib.hid (pw_own_below ho2 hr.out)
      clear hV ho1 ho2
      go_wp2
      obtain ⟨W0, hW0⟩ : ∃ W0, wr.alloc (Obj.cells #[Value.slice a1 n c1, Value.slice a2 (n + 40) c2, Value.int IntKind.i64 (N : Int)] 64) = W0 := ⟨_, rfl⟩
      have HBLK : Hid (W0.heap[wr.heap.size]? = some (.cells #[Value.slice a1 n c1, Value.slice a2 (n + 40) c2, Value.int IntKind.i64 (N : Int)] 64 (0, 0))) := Lib.hid (by rw [← hW0]; exact World.alloc_heap_new wr _)
      have hb0 : Hid (Below wr.heap.size wr W0) := Lib.hid (by rw [← hW0]; exact bal (Below.refl _ _) _)
      rw [hW0]
      clear hW0 c3 e0 e1 e2
      obtain ⟨wo, rfl⟩ : ∃ wo : World, wo = wr := ⟨_, rfl⟩
      go_loopw [5] (fun kv wi => ∃ k : Nat, k ≤ n + 40 ∧ kv = .int .i64 k ∧ Hid (Below W0.heap.size W0 wi)) (fun kv _ => n + 40 - (intOf kv).toNat)
      case atStart => exact ⟨0, Nat.zero_le _, rfl, Lib.hid (Below.refl _ _)⟩
      case round =>
        obtain ⟨k, hk, rfl, hi3⟩ := hrel
        have hb1 := (hi3.out.block _ (blk_lt HBLK.out)).trans HBLK.out
        have q0 := blk_cell' hb1 0
        have q1 := blk_cell' hb1 1
        have q2 := blk_cell' hb1 2
        simp only [List.getElem?_toArray, List.getElem?_cons_zero, List.getElem?_cons_succ] at q0 q1 q2
        have hbw := bth hb0.out hi3.out
        by_cases hkl : k < n + 40
        · obtain ⟨g2, cap2, hv2, _, _⟩ := HO2.out.form (by omega)
          injection hv2 with hv2 _ hv3
          subst hv2 hv3
          have y2 : wr.cell? ⟨g2, k, none⟩ = some (.string (markS N)) := pw_cell_below hbw ((HO2.out.cellAt k (by omega)).trans (rep_at _ _ _ hkl))
          by_cases hkn : k < n
          · obtain ⟨g1, cap1, hv1, _, _⟩ := HO1.out.form (by omega)
            injection hv1 with hv1 _ hv3
            subst hv1 hv3
            have y1 : wr.cell? ⟨g1, k, none⟩ = some (.string (markS N)) := pw_cell_below hbw ((HO1.out.cellAt k (by omega)).trans (rep_at _ _ _ hkn))
            have HIT := Lib.hid (show ∀ V, Below wr.heap.size wr V → Calls Tryd.prog 72 #[.string (markS N), .int .i64 (N : Int)] V fun e w' => e = .returned (.bool true) ∧ Below V.heap.size V w' from fun V h => isText_any N hN V (HP.out V (bth (bth hr.out hbw) h)))
            have HCL := Lib.hid (show ∀ V, Below wr.heap.size wr V → V.cell? ⟨wo.heap.size, 0, none⟩ = some (.slice (some ⟨g1, 0, none⟩) n c1) ∧ V.cell? ⟨wo.heap.size, 1, none⟩ = some (.slice (some ⟨g2, 0, none⟩) (n + 40) c2) ∧ V.cell? ⟨wo.heap.size, 2, none⟩ = some (.int .i64 (N : Int)) ∧ V.cell? ⟨g2, k, none⟩ = some (.string (markS N)) ∧ V.cell? ⟨g1, k, none⟩ = some (.string (markS N)) from fun V h => ⟨pw_cell_below h q0, pw_cell_below h q1, pw_cell_below h q2, pw_cell_below h y2, pw_cell_below h y1⟩)
            obtain ⟨s0, s1, s2, s3, s4⟩ := HCL.out wr (Below.refl _ _)
            go_wp2
            first | (go_region_held3 (fun V => Below wr.heap.size wr V ∧ V.cell? ⟨wo.heap.size, 0, none⟩ = some (.slice (some ⟨g1, 0, none⟩) n c1) ∧ V.cell? ⟨wo.heap.size, 1, none⟩ = some (.slice (some ⟨g2, 0, none⟩) (n + 40) c2) ∧ V.cell? ⟨wo.heap.size, 2, none⟩ = some (.int .i64 (N : Int)) ∧ V.cell? ⟨g2, k, none⟩ = some (.string (markS N)) ∧ V.cell? ⟨g1, k, none⟩ = some (.string (markS N))) (with_reducible first | assumption | exact ⟨by assumption, HCL.out _ (by assumption)⟩ | exact ⟨bdr (Below.refl _ _), HCL.out _ (bdr (Below.refl _ _))⟩ | exact ⟨Below.refl _ _, HCL.out _ (Below.refl _ _)⟩) ((go_at_call 72; with_reducible refine (HIT.out _ (show Below wr.heap.size wr _ ∧ _ from by assumption).1).mono ?_; rintro e w' ⟨rfl, hbq⟩; have hbq := bth (show Below wr.heap.size wr _ ∧ _ from by assumption).1 hbq))) | fail
            have BW := Lib.hid (bth hi3.out (show Below wr.heap.size wr _ ∧ _ from by assumption).1)
            go_wp2
            go_roundw
            case rel => exact ⟨k + 1, by omega, by go_num, BW⟩
            case measure => simp [intOf]; omega
          · have hd1 : decide (k < n) = false := by simpa using hkn
            have hd2 : decide ((k : Int) < (n : Int)) = false := by simpa using hkn
            have HIT := Lib.hid (show ∀ V, Below wr.heap.size wr V → Calls Tryd.prog 72 #[.string (markS N), .int .i64 (N : Int)] V fun e w' => e = .returned (.bool true) ∧ Below V.heap.size V w' from fun V h => isText_any N hN V (HP.out V (bth (bth hr.out hbw) h)))
            have HCL := Lib.hid (show ∀ V, Below wr.heap.size wr V → V.cell? ⟨wo.heap.size, 0, none⟩ = some (.slice a1 n c1) ∧ V.cell? ⟨wo.heap.size, 1, none⟩ = some (.slice (some ⟨g2, 0, none⟩) (n + 40) c2) ∧ V.cell? ⟨wo.heap.size, 2, none⟩ = some (.int .i64 (N : Int)) ∧ V.cell? ⟨g2, k, none⟩ = some (.string (markS N)) from fun V h => ⟨pw_cell_below h q0, pw_cell_below h q1, pw_cell_below h q2, pw_cell_below h y2⟩)
            obtain ⟨s0, s1, s2, s3⟩ := HCL.out wr (Below.refl _ _)
            go_wp2
            refine wp_region_held_drew (S := fun V => Below wr.heap.size wr V ∧ V.cell? ⟨wo.heap.size, 0, none⟩ = some (.slice a1 n c1) ∧ V.cell? ⟨wo.heap.size, 1, none⟩ = some (.slice (some ⟨g2, 0, none⟩) (n + 40) c2) ∧ V.cell? ⟨wo.heap.size, 2, none⟩ = some (.int .i64 (N : Int)) ∧ V.cell? ⟨g2, k, none⟩ = some (.string (markS N))) (by kernel_rfl) ⟨bdr (Below.refl _ _), HCL.out _ (bdr (Below.refl _ _))⟩ (fun hHeld => ?_)
            refine wpAnyH_take (i := 0) (v := ?_) rfl (by kernel_rfl) (by kernel_rfl) (by kernel_rfl) (fun _ _ _ h => h) (Or.inl ⟨by rfl, ?_⟩) (by assumption) ?_
            rotate_left
            focus
              intro w hSw
              (try dsimp only at hSw)
              go_simp
              try (with_reducible rfl)
            try simp only [List.getElem_toArray, List.getElem_cons_succ, List.getElem_cons_zero, Act.put, List.setIfInBounds_toArray, List.set_cons_zero, List.set_cons_succ]
            refine wpAnyH_take (i := 1) (v := ?_) rfl (by kernel_rfl) (by kernel_rfl) (by kernel_rfl) (fun _ _ _ h => h) (Or.inl ⟨by rfl, ?_⟩) (by assumption) ?_
            rotate_left
            focus
              intro w hSw
              (try dsimp only at hSw)
              go_simp
              try (with_reducible rfl)
            try simp only [List.getElem_toArray, List.getElem_cons_succ, List.getElem_cons_zero, Act.put, List.setIfInBounds_toArray, List.set_cons_zero, List.set_cons_succ]
            refine wpAnyH_take (i := 2) (v := ?_) rfl (by kernel_rfl) (by kernel_rfl) (by kernel_rfl) (fun _ _ _ h => h) (Or.inl ⟨by rfl, ?_⟩) (by assumption) ?_
            rotate_left
            focus
              intro w hSw
              (try dsimp only at hSw)
              go_simp
              try (with_reducible rfl)
            try simp only [List.getElem_toArray, List.getElem_cons_succ, List.getElem_cons_zero, Act.put, List.setIfInBounds_toArray, List.set_cons_zero, List.set_cons_succ]
            refine wpAnyH_take (i := 3) (v := ?_) rfl (by kernel_rfl) (by kernel_rfl) (by kernel_rfl) (fun _ _ _ h => h) (Or.inl ⟨by rfl, ?_⟩) (by assumption) ?_
            rotate_left
            focus
              intro w hSw
              (try dsimp only at hSw)
              go_simp
              try (with_reducible rfl)
            try simp only [List.getElem_toArray, List.getElem_cons_succ, List.getElem_cons_zero, Act.put, List.setIfInBounds_toArray, List.set_cons_zero, List.set_cons_succ]
            refine wpAnyH_take (i := 4) (v := ?_) rfl (by kernel_rfl) (by kernel_rfl) (by kernel_rfl) (fun _ _ _ h => h) (Or.inl ⟨by rfl, ?_⟩) (by assumption) ?_
            rotate_left
            focus
              intro w hSw
              (try dsimp only at hSw)
              go_simp
              try (with_reducible rfl)
            try simp only [List.getElem_toArray, List.getElem_cons_succ, List.getElem_cons_zero, Act.put, List.setIfInBounds_toArray, List.set_cons_zero, List.set_cons_succ]
            refine wpAnyH_take (i := 5) (v := ?_) rfl (by kernel_rfl) (by kernel_rfl) (by kernel_rfl) (fun _ _ _ h => h) (Or.inl ⟨by rfl, ?_⟩) (by assumption) ?_
            rotate_left
            focus
              intro w hSw
              (try dsimp only at hSw)
              go_simp
              try (with_reducible rfl)
            try simp only [List.getElem_toArray, List.getElem_cons_succ, List.getElem_cons_zero, Act.put, List.setIfInBounds_toArray, List.set_cons_zero, List.set_cons_succ]
            refine wpAnyH_take (i := 6) (v := ?_) rfl (by kernel_rfl) (by kernel_rfl) (by kernel_rfl) (fun _ _ _ h => h) (Or.inl ⟨by rfl, ?_⟩) (by assumption) ?_
            rotate_left
            focus
              intro w hSw
              (try dsimp only at hSw)
              go_simp
              try (with_reducible rfl)
            try simp only [List.getElem_toArray, List.getElem_cons_succ, List.getElem_cons_zero, Act.put, List.setIfInBounds_toArray, List.set_cons_zero, List.set_cons_succ]
            refine wpAnyH_ready (rs := [7]) (by kernel_rfl) (by simp) ?_
            refine AllReadyH.cons rfl (fun K hK => ?_) AllReadyH.nil
            go_simp
            go_at_call 72
            with_reducible refine (HIT.out _ hHeld.1).mono ?_
            rintro e w9 ⟨rfl, hbq⟩
            have hb9 := bth hHeld.1 hbq
            go_wp2_with fail
            refine hK.out _ _ ⟨hb9, HCL.out _ hb9⟩ (fun hHeld => ?_)
            clear hK K
            try simp only [List.getElem_toArray, List.getElem_cons_succ, List.getElem_cons_zero, Act.put, List.setIfInBounds_toArray, List.set_cons_zero, List.set_cons_succ]
            refine wpAnyH_take (i := 8) (v := ?_) rfl (by kernel_rfl) (by kernel_rfl) (by kernel_rfl) (fun _ _ _ h => h) (Or.inl ⟨by rfl, ?_⟩) (by assumption) ?_
            rotate_left
            focus
              intro w hSw
              (try dsimp only at hSw)
              go_simp
              try (with_reducible rfl)
            try simp only [List.getElem_toArray, List.getElem_cons_succ, List.getElem_cons_zero, Act.put, List.setIfInBounds_toArray, List.set_cons_zero, List.set_cons_succ]
            refine wpAnyH_take (i := 9) (v := ?_) rfl (by kernel_rfl) (by kernel_rfl) (by kernel_rfl) (fun _ _ _ h => h) (Or.inl ⟨by rfl, ?_⟩) (by assumption) ?_
            rotate_left
            focus
              intro w hSw
              (try dsimp only at hSw)
              go_simp
              try (with_reducible rfl)
            try simp only [List.getElem_toArray, List.getElem_cons_succ, List.getElem_cons_zero, Act.put, List.setIfInBounds_toArray, List.set_cons_zero, List.set_cons_succ]
            refine wpAnyH_take (i := 10) (v := ?_) rfl (by kernel_rfl) (by kernel_rfl) (by kernel_rfl) (fun _ _ _ h => h) (Or.inl ⟨by rfl, ?_⟩) (by assumption) ?_
            rotate_left
            focus
              intro w hSw
              (try dsimp only at hSw)
              go_simp
              try (with_reducible rfl)
            try simp only [List.getElem_toArray, List.getElem_cons_succ, List.getElem_cons_zero, Act.put, List.setIfInBounds_toArray, List.set_cons_zero, List.set_cons_succ]
            refine wpAnyH_take (i := 11) (v := ?_) rfl (by kernel_rfl) (by kernel_rfl) (by kernel_rfl) (fun _ _ _ h => h) (Or.inl ⟨by rfl, ?_⟩) (by assumption) ?_
            rotate_left
            focus
              intro w hSw
              (try dsimp only at hSw)
              go_simp
              try (with_reducible rfl)
            try simp only [List.getElem_toArray, List.getElem_cons_succ, List.getElem_cons_zero, Act.put, List.setIfInBounds_toArray, List.set_cons_zero, List.set_cons_succ]
            refine wpAnyH_take (i := 12) (v := ?_) rfl (by kernel_rfl) (by kernel_rfl) (by kernel_rfl) (fun _ _ _ h => h) (Or.inl ⟨by rfl, ?_⟩) (by assumption) ?_
            rotate_left
            focus
              intro w hSw
              (try dsimp only at hSw)
              go_simp
              try (with_reducible rfl)
            try simp only [List.getElem_toArray, List.getElem_cons_succ, List.getElem_cons_zero, Act.put, List.setIfInBounds_toArray, List.set_cons_zero, List.set_cons_succ]
            refine wpAnyH_take (i := 13) (v := ?_) rfl (by kernel_rfl) (by kernel_rfl) (by kernel_rfl) (fun _ _ _ h => h) (Or.inl ⟨by rfl, ?_⟩) (by assumption) ?_
            rotate_left
            focus
              intro w hSw
              (try dsimp only at hSw)
              go_simp
              try (with_reducible rfl)
            try simp only [List.getElem_toArray, List.getElem_cons_succ, List.getElem_cons_zero, Act.put, List.setIfInBounds_toArray, List.set_cons_zero, List.set_cons_succ]
            refine wpAnyH_take (i := 14) (v := ?_) rfl (by kernel_rfl) (by kernel_rfl) (by kernel_rfl) (fun _ _ _ h => h) (Or.inl ⟨by rfl, ?_⟩) (by assumption) ?_
            rotate_left
            focus
              intro w hSw
              (try dsimp only at hSw)
              go_simp
              try (with_reducible rfl)
            try simp only [List.getElem_toArray, List.getElem_cons_succ, List.getElem_cons_zero, Act.put, List.setIfInBounds_toArray, List.set_cons_zero, List.set_cons_succ]
            refine wpAnyH_take (i := 15) (v := ?_) rfl (by kernel_rfl) (by kernel_rfl) (by kernel_rfl) (fun _ _ _ h => h) (Or.inl ⟨by rfl, ?_⟩) (by assumption) ?_
            rotate_left
            focus
              intro w hSw
              (try dsimp only at hSw)
              go_simp
              try (with_reducible rfl)
            try simp only [List.getElem_toArray, List.getElem_cons_succ, List.getElem_cons_zero, Act.put, List.setIfInBounds_toArray, List.set_cons_zero, List.set_cons_succ]
            refine wpAnyH_take (i := 16) (v := undef) rfl (by kernel_rfl) (by kernel_rfl) (by kernel_rfl) (fun _ _ _ h => h) (Or.inr ⟨by rfl, rfl⟩) (by assumption) ?_
            try simp only [List.getElem_toArray, List.getElem_cons_succ, List.getElem_cons_zero, Act.put, List.setIfInBounds_toArray, List.set_cons_zero, List.set_cons_succ]
            refine wpAnyH_take (i := 17) (v := undef) rfl (by kernel_rfl) (by kernel_rfl) (by kernel_rfl) (fun _ _ _ h => h) (Or.inr ⟨by rfl, rfl⟩) (by assumption) ?_
            try simp only [List.getElem_toArray, List.getElem_cons_succ, List.getElem_cons_zero, Act.put, List.setIfInBounds_toArray, List.set_cons_zero, List.set_cons_succ]
            refine wpAnyH_take (i := 18) (v := undef) rfl (by kernel_rfl) (by kernel_rfl) (by kernel_rfl) (fun _ _ _ h => h) (Or.inr ⟨by rfl, rfl⟩) (by assumption) ?_
            try simp only [List.getElem_toArray, List.getElem_cons_succ, List.getElem_cons_zero, Act.put, List.setIfInBounds_toArray, List.set_cons_zero, List.set_cons_succ]
            refine wpAnyH_take (i := 19) (v := undef) rfl (by kernel_rfl) (by kernel_rfl) (by kernel_rfl) (fun _ _ _ h => h) (Or.inr ⟨by rfl, rfl⟩) (by assumption) ?_
            try simp only [List.getElem_toArray, List.getElem_cons_succ, List.getElem_cons_zero, Act.put, List.setIfInBounds_toArray, List.set_cons_zero, List.set_cons_succ]
            refine wpAnyH_take (i := 20) (v := undef) rfl (by kernel_rfl) (by kernel_rfl) (by kernel_rfl) (fun _ _ _ h => h) (Or.inr ⟨by rfl, rfl⟩) (by assumption) ?_
            try simp only [List.getElem_toArray, List.getElem_cons_succ, List.getElem_cons_zero, Act.put, List.setIfInBounds_toArray, List.set_cons_zero, List.set_cons_succ]
            refine wpAnyH_take (i := 21) (v := undef) rfl (by kernel_rfl) (by kernel_rfl) (by kernel_rfl) (fun _ _ _ h => h) (Or.inr ⟨by rfl, rfl⟩) (by assumption) ?_
            try simp only [List.getElem_toArray, List.getElem_cons_succ, List.getElem_cons_zero, Act.put, List.setIfInBounds_toArray, List.set_cons_zero, List.set_cons_succ]
            refine wpAnyH_take (i := 22) (v := undef) rfl (by kernel_rfl) (by kernel_rfl) (by kernel_rfl) (fun _ _ _ h => h) (Or.inr ⟨by rfl, rfl⟩) (by assumption) ?_
            try simp only [List.getElem_toArray, List.getElem_cons_succ, List.getElem_cons_zero, Act.put, List.setIfInBounds_toArray, List.set_cons_zero, List.set_cons_succ]
            refine wpAnyH_take (i := 23) (v := undef) rfl (by kernel_rfl) (by kernel_rfl) (by kernel_rfl) (fun _ _ _ h => h) (Or.inr ⟨by rfl, rfl⟩) (by assumption) ?_
            try simp only [List.getElem_toArray, List.getElem_cons_succ, List.getElem_cons_zero, Act.put, List.setIfInBounds_toArray, List.set_cons_zero, List.set_cons_succ]
            refine wpAnyH_take (i := 24) (v := undef) rfl (by kernel_rfl) (by kernel_rfl) (by kernel_rfl) (fun _ _ _ h => h) (Or.inr ⟨by rfl, rfl⟩) (by assumption) ?_
            try simp only [List.getElem_toArray, List.getElem_cons_succ, List.getElem_cons_zero, Act.put, List.setIfInBounds_toArray, List.set_cons_zero, List.set_cons_succ]
            refine wpAnyH_take (i := 25) (v := ?_) rfl (by kernel_rfl) (by kernel_rfl) (by kernel_rfl) (fun _ _ _ h => h) (Or.inl ⟨by rfl, ?_⟩) (by assumption) ?_
            rotate_left
            focus
              intro w hSw
              (try dsimp only at hSw)
              go_simp
              try (with_reducible rfl)
            try simp only [List.getElem_toArray, List.getElem_cons_succ, List.getElem_cons_zero, Act.put, List.setIfInBounds_toArray, List.set_cons_zero, List.set_cons_succ]
            refine wpAnyH_take (i := 26) (v := ?_) rfl (by kernel_rfl) (by kernel_rfl) (by kernel_rfl) (fun _ _ _ h => h) (Or.inl ⟨by rfl, ?_⟩) (by assumption) ?_
            rotate_left
            focus
              intro w hSw
              (try dsimp only at hSw)
              go_simp
              try (with_reducible rfl)
            try simp only [List.getElem_toArray, List.getElem_cons_succ, List.getElem_cons_zero, Act.put, List.setIfInBounds_toArray, List.set_cons_zero, List.set_cons_succ]
            refine wpAnyH_done (by kernel_rfl) ?_ _
            have BW := Lib.hid (bth hi3.out hHeld.1)
            go_wp2
            go_roundw
            case rel => exact ⟨k + 1, by omega, by go_num, BW⟩
            case measure => simp [intOf]; omega
        · obtain rfl : k = n + 40 := by omega
          go_wp2
          go_roundw
          case rel => exact ⟨i + 1, by omega, by go_num, Lib.hid (bth (bth hr.out hb0.out) hi3.out)⟩
          case measure => simp [intOf]; omega
    · obtain rfl : i = L.length := by omega
      obtain ⟨aT, cT, hT⟩ := own_slice HB.out.own
      subst hT
      go_wp2
      go_ret
      exact ⟨rfl, hr.out⟩
set_option maxHeartbeats 4000000 in
set_option maxRecDepth 100000 in
theorem lookRowR_calls (B0 Bk : Nat) (T TR : Value) (m : Nat) (L : List Held) (N G n cap gl cl : Nat) (ms ms2 : List Nat) (w : World) (hP : ∀ V, Below w.heap.size w V → PW V) (hB : BookR Bk T TR m L [⟨.slice (some ⟨G, 0, none⟩) n cap, .slice (some ⟨gl, 0, none⟩) (n + 40) cl, N⟩] w) (hN : N ≤ 1000000) (hn : n ≤ 1000000) (hml : ms.length = n) (hml2 : ms2.length = 40) (hms : Mks N 0 ms w) (hms2 : Mks N 0 ms2 w)
    (hR : w.ownsRow B0 25 1 (.slice (some ⟨G, 0, none⟩) n cap) n (mrk ms)) (hR2 : w.ownsRow B0 25 1 (.slice (some ⟨gl, 0, none⟩) (n + 40) cl) (n + 40) (mrk ms ++ mrk ms2)) :
    Calls Tryd.prog 47 #[.pointer (some ⟨Bk, 0, none⟩)] w fun e w' => e = .returned (.bool true) ∧ Below w.heap.size w w' := by
  have HB := Lib.hid hB
  have HP := Lib.hid hP
  have HM := Lib.hid (show ∀ g ∈ ms ++ ms2, MarkAt N g w from fun g hg => by
    rcases List.mem_append.1 hg with h | h
    · exact (hms g h).2
    · exact (hms2 g h).2)
  have HR := Lib.hid (show w.ownsRow B0 25 1 (.slice (some ⟨G, 0, none⟩) n cap) n (mrk ms) ∧ w.ownsRow B0 25 1 (.slice (some ⟨gl, 0, none⟩) (n + 40) cl) (n + 40) (mrk (ms ++ ms2)) from ⟨hR, by rw [mrk_app]; exact hR2⟩)
  have HML := Lib.hid (And.intro hml hml2)
  obtain ⟨gT, cT, rfl, hgb, hgl⟩ := hB.ownR.form (by simp)
  have hncap := (twin_cap hR).1
  have hncl := (twin_cap hR2).1
  clear hB hP hms hms2 hR hR2 hml hml2
  go_enter Tryd.func47, Tryd.ntmps47
  go_wp2
  go_loopw [3] (fun i wr => ∃ k : Nat, k ≤ 1 ∧ i = .int .i64 (k : Int) ∧ Hid (Below w.heap.size w wr)) (fun i _ => 1 - (intOf i).toNat)
  case atStart => exact ⟨0, Nat.zero_le _, rfl, Lib.hid (Below.refl _ _)⟩
  case round =>
    obtain ⟨i, hi, rfl, hr⟩ := hrel
    have hbk := Lib.hid (book_belowR HB.out hr.out)
    have c5 : wr.cell? ⟨Bk, 5, none⟩ = some (.slice (some ⟨gT, 0, none⟩) 1 cT) := blk_cell' hbk.out.at_ 5
    by_cases hlt : i < 1
    · obtain rfl : i = 0 := by omega
      obtain ⟨e0, e1, e2⟩ := row_entry hbk.out
      have HO := Lib.hid (And.intro (pw_own_below HR.out.1 hr.out) (pw_own_below HR.out.2 hr.out))
      go_wp2
      obtain ⟨W0, hW0⟩ : ∃ W0, wr.alloc (Obj.cells #[Value.slice (some ⟨G, 0, none⟩) n cap, Value.slice (some ⟨gl, 0, none⟩) (n + 40) cl, Value.int IntKind.i64 (N : Int)] 62) = W0 := ⟨_, rfl⟩
      have HBLK : Hid (W0.heap[wr.heap.size]? = some (.cells #[Value.slice (some ⟨G, 0, none⟩) n cap, Value.slice (some ⟨gl, 0, none⟩) (n + 40) cl, Value.int IntKind.i64 (N : Int)] 62 (0, 0))) := Lib.hid (by rw [← hW0]; exact World.alloc_heap_new wr _)
      have hb0 : Hid (Below wr.heap.size wr W0) := Lib.hid (by rw [← hW0]; exact bal (Below.refl _ _) _)
      rw [hW0]
      clear hW0 c5 e0 e1 e2
      obtain ⟨wo, rfl⟩ : ∃ wo : World, wo = wr := ⟨_, rfl⟩
      go_loopw [5] (fun kv wi => ∃ k : Nat, k ≤ n + 40 ∧ kv = .int .i64 (k : Int) ∧ Hid (Below W0.heap.size W0 wi)) (fun kv _ => n + 40 - (intOf kv).toNat)
      case atStart => exact ⟨0, Nat.zero_le _, rfl, Lib.hid (Below.refl _ _)⟩
      case round =>
        obtain ⟨k, hk, rfl, hi3⟩ := hrel
        have hb1 := (hi3.out.block _ (blk_lt HBLK.out)).trans HBLK.out
        have q0 := blk_cell' hb1 0
        have q1 := blk_cell' hb1 1
        have q2 := blk_cell' hb1 2
        simp only [List.getElem?_toArray, List.getElem?_cons_zero, List.getElem?_cons_succ] at q0 q1 q2
        have hbw := bth hb0.out hi3.out
        by_cases hkl : k < n + 40
        · have hall : (ms ++ ms2).length = n + 40 := by rw [List.length_append, HML.out.1, HML.out.2]
          obtain ⟨g9, hg9⟩ : ∃ g, (ms ++ ms2)[k]? = some g := ⟨_, List.getElem?_eq_getElem (by omega)⟩
          have hm9 : MarkAt N g9 w := HM.out g9 (List.mem_of_getElem? hg9)
          have y2 : wr.cell? ⟨gl, k, none⟩ = some (.slice (some ⟨g9, 0, none⟩) 1 1) := pw_cell_below hbw ((HO.out.2.cellAt k (by omega)).trans (by unfold mrk; rw [List.getElem?_map, hg9]; rfl))
          have HIT := Lib.hid (show ∀ V, Below wr.heap.size wr V → Calls Tryd.prog 74 #[.slice (some ⟨g9, 0, none⟩) 1 1, .int .i64 (N : Int)] V fun e w' => e = .returned (.bool true) ∧ Below V.heap.size V w' from fun V h => isRow_any N g9 hN V (HP.out V (bth (bth hr.out hbw) h)) (((bth (bth hr.out hbw) h).block g9 (Array.getElem?_eq_some_iff.1 hm9).1).trans hm9))
          have hkcl : k < cl := by omega
          by_cases hkn : k < n
          · have hg1 : ms[k]? = some g9 := by rw [← hg9, List.getElem?_append_left (by rw [HML.out.1]; exact hkn)]
            have y1 : wr.cell? ⟨G, k, none⟩ = some (.slice (some ⟨g9, 0, none⟩) 1 1) := pw_cell_below hbw ((HO.out.1.cellAt k (by omega)).trans (by unfold mrk; rw [List.getElem?_map, hg1]; rfl))
            have hkc : k < cap := by omega
            have HCL := Lib.hid (show ∀ V, Below wr.heap.size wr V → V.cell? ⟨wo.heap.size, 0, none⟩ = some (.slice (some ⟨G, 0, none⟩) n cap) ∧ V.cell? ⟨wo.heap.size, 1, none⟩ = some (.slice (some ⟨gl, 0, none⟩) (n + 40) cl) ∧ V.cell? ⟨wo.heap.size, 2, none⟩ = some (.int .i64 (N : Int)) ∧ V.cell? ⟨gl, k, none⟩ = some (.slice (some ⟨g9, 0, none⟩) 1 1) ∧ V.cell? ⟨G, k, none⟩ = some (.slice (some ⟨g9, 0, none⟩) 1 1) from fun V h => ⟨pw_cell_below h q0, pw_cell_below h q1, pw_cell_below h q2, pw_cell_below h y2, pw_cell_below h y1⟩)
            obtain ⟨s0, s1, s2, s3, s4⟩ := HCL.out wr (Below.refl _ _)
            go_wp2
            first | (go_region_held3 (fun V => Below wr.heap.size wr V ∧ V.cell? ⟨wo.heap.size, 0, none⟩ = some (.slice (some ⟨G, 0, none⟩) n cap) ∧ V.cell? ⟨wo.heap.size, 1, none⟩ = some (.slice (some ⟨gl, 0, none⟩) (n + 40) cl) ∧ V.cell? ⟨wo.heap.size, 2, none⟩ = some (.int .i64 (N : Int)) ∧ V.cell? ⟨gl, k, none⟩ = some (.slice (some ⟨g9, 0, none⟩) 1 1) ∧ V.cell? ⟨G, k, none⟩ = some (.slice (some ⟨g9, 0, none⟩) 1 1))
              (with_reducible first | assumption | exact ⟨by assumption, HCL.out _ (by assumption)⟩ | exact ⟨bdr (Below.refl _ _), HCL.out _ (bdr (Below.refl _ _))⟩ | exact ⟨Below.refl _ _, HCL.out _ (Below.refl _ _)⟩) ((go_at_call 74; with_reducible refine (HIT.out _ (show Below wr.heap.size wr _ ∧ _ from by assumption).1).mono ?_; rintro e w' ⟨rfl, hbq⟩; have hbq := bth (show Below wr.heap.size wr _ ∧ _ from by assumption).1 hbq))) | fail
            have BW := Lib.hid (bth hi3.out (show Below wr.heap.size wr _ ∧ _ from by assumption).1)
            go_wp2
            go_roundw
            case rel => exact ⟨k + 1, by omega, by go_num, BW⟩
            case measure => simp [intOf]; omega
          · have hd1 : decide (k < n) = false := by simpa using hkn
            have hd2 : decide ((k : Int) < (n : Int)) = false := by simpa using hkn
            have HCL := Lib.hid (show ∀ V, Below wr.heap.size wr V → V.cell? ⟨wo.heap.size, 0, none⟩ = some (.slice (some ⟨G, 0, none⟩) n cap) ∧ V.cell? ⟨wo.heap.size, 1, none⟩ = some (.slice (some ⟨gl, 0, none⟩) (n + 40) cl) ∧ V.cell? ⟨wo.heap.size, 2, none⟩ = some (.int .i64 (N : Int)) ∧ V.cell? ⟨gl, k, none⟩ = some (.slice (some ⟨g9, 0, none⟩) 1 1) from fun V h => ⟨pw_cell_below h q0, pw_cell_below h q1, pw_cell_below h q2, pw_cell_below h y2⟩)
            obtain ⟨s0, s1, s2, s3⟩ := HCL.out wr (Below.refl _ _)
            go_wp2
            refine wp_region_held_drew (S := fun V => Below wr.heap.size wr V ∧ V.cell? ⟨wo.heap.size, 0, none⟩ = some (.slice (some ⟨G, 0, none⟩) n cap) ∧ V.cell? ⟨wo.heap.size, 1, none⟩ = some (.slice (some ⟨gl, 0, none⟩) (n + 40) cl) ∧ V.cell? ⟨wo.heap.size, 2, none⟩ = some (.int .i64 (N : Int)) ∧ V.cell? ⟨gl, k, none⟩ = some (.slice (some ⟨g9, 0, none⟩) 1 1)) (by kernel_rfl) ⟨bdr (Below.refl _ _), HCL.out _ (bdr (Below.refl _ _))⟩ (fun hHeld => ?_)
            refine wpAnyH_take (i := 0) (v := ?_) rfl (by kernel_rfl) (by kernel_rfl) (by kernel_rfl) (fun _ _ _ h => h) (Or.inl ⟨by rfl, ?_⟩) (by assumption) ?_
            rotate_left
            focus
              intro w hSw
              (try dsimp only at hSw)
              go_simp
              try (with_reducible rfl)
            try simp only [List.getElem_toArray, List.getElem_cons_succ, List.getElem_cons_zero, Act.put, List.setIfInBounds_toArray, List.set_cons_zero, List.set_cons_succ]
            refine wpAnyH_take (i := 1) (v := ?_) rfl (by kernel_rfl) (by kernel_rfl) (by kernel_rfl) (fun _ _ _ h => h) (Or.inl ⟨by rfl, ?_⟩) (by assumption) ?_
            rotate_left
            focus
              intro w hSw
              (try dsimp only at hSw)
              go_simp
              try (with_reducible rfl)
            try simp only [List.getElem_toArray, List.getElem_cons_succ, List.getElem_cons_zero, Act.put, List.setIfInBounds_toArray, List.set_cons_zero, List.set_cons_succ]
            refine wpAnyH_take (i := 2) (v := ?_) rfl (by kernel_rfl) (by kernel_rfl) (by kernel_rfl) (fun _ _ _ h => h) (Or.inl ⟨by rfl, ?_⟩) (by assumption) ?_
            rotate_left
            focus
              intro w hSw
              (try dsimp only at hSw)
              go_simp
              try (with_reducible rfl)
            try simp only [List.getElem_toArray, List.getElem_cons_succ, List.getElem_cons_zero, Act.put, List.setIfInBounds_toArray, List.set_cons_zero, List.set_cons_succ]
            refine wpAnyH_take (i := 3) (v := ?_) rfl (by kernel_rfl) (by kernel_rfl) (by kernel_rfl) (fun _ _ _ h => h) (Or.inl ⟨by rfl, ?_⟩) (by assumption) ?_
            rotate_left
            focus
              intro w hSw
              (try dsimp only at hSw)
              go_simp
              try (with_reducible rfl)
            try simp only [List.getElem_toArray, List.getElem_cons_succ, List.getElem_cons_zero, Act.put, List.setIfInBounds_toArray, List.set_cons_zero, List.set_cons_succ]
            refine wpAnyH_take (i := 4) (v := ?_) rfl (by kernel_rfl) (by kernel_rfl) (by kernel_rfl) (fun _ _ _ h => h) (Or.inl ⟨by rfl, ?_⟩) (by assumption) ?_
            rotate_left
            focus
              intro w hSw
              (try dsimp only at hSw)
              go_simp
              try (with_reducible rfl)
            try simp only [List.getElem_toArray, List.getElem_cons_succ, List.getElem_cons_zero, Act.put, List.setIfInBounds_toArray, List.set_cons_zero, List.set_cons_succ]
            refine wpAnyH_take (i := 5) (v := ?_) rfl (by kernel_rfl) (by kernel_rfl) (by kernel_rfl) (fun _ _ _ h => h) (Or.inl ⟨by rfl, ?_⟩) (by assumption) ?_
            rotate_left
            focus
              intro w hSw
              (try dsimp only at hSw)
              go_simp
              try (with_reducible rfl)
            try simp only [List.getElem_toArray, List.getElem_cons_succ, List.getElem_cons_zero, Act.put, List.setIfInBounds_toArray, List.set_cons_zero, List.set_cons_succ]
            refine wpAnyH_take (i := 6) (v := ?_) rfl (by kernel_rfl) (by kernel_rfl) (by kernel_rfl) (fun _ _ _ h => h) (Or.inl ⟨by rfl, ?_⟩) (by assumption) ?_
            rotate_left
            focus
              intro w hSw
              (try dsimp only at hSw)
              go_simp
              try (with_reducible rfl)
            try simp only [List.getElem_toArray, List.getElem_cons_succ, List.getElem_cons_zero, Act.put, List.setIfInBounds_toArray, List.set_cons_zero, List.set_cons_succ]
            refine wpAnyH_ready (rs := [7]) (by kernel_rfl) (by simp) ?_
            refine AllReadyH.cons rfl (fun K hK => ?_) AllReadyH.nil
            go_simp
            go_at_call 74
            with_reducible refine (HIT.out _ hHeld.1).mono ?_
            rintro e w9 ⟨rfl, hbq⟩
            have hb9 := bth hHeld.1 hbq
            go_wp2_with fail
            refine hK.out _ _ ⟨hb9, HCL.out _ hb9⟩ (fun hHeld => ?_)
            clear hK K
            try simp only [List.getElem_toArray, List.getElem_cons_succ, List.getElem_cons_zero, Act.put, List.setIfInBounds_toArray, List.set_cons_zero, List.set_cons_succ]
            refine wpAnyH_take (i := 8) (v := ?_) rfl (by kernel_rfl) (by kernel_rfl) (by kernel_rfl) (fun _ _ _ h => h) (Or.inl ⟨by rfl, ?_⟩) (by assumption) ?_
            rotate_left
            focus
              intro w hSw
              (try dsimp only at hSw)
              go_simp
              try (with_reducible rfl)
            try simp only [List.getElem_toArray, List.getElem_cons_succ, List.getElem_cons_zero, Act.put, List.setIfInBounds_toArray, List.set_cons_zero, List.set_cons_succ]
            refine wpAnyH_take (i := 9) (v := ?_) rfl (by kernel_rfl) (by kernel_rfl) (by kernel_rfl) (fun _ _ _ h => h) (Or.inl ⟨by rfl, ?_⟩) (by assumption) ?_
            rotate_left
            focus
              intro w hSw
              (try dsimp only at hSw)
              go_simp
              try (with_reducible rfl)
            try simp only [List.getElem_toArray, List.getElem_cons_succ, List.getElem_cons_zero, Act.put, List.setIfInBounds_toArray, List.set_cons_zero, List.set_cons_succ]
            refine wpAnyH_take (i := 10) (v := ?_) rfl (by kernel_rfl) (by kernel_rfl) (by kernel_rfl) (fun _ _ _ h => h) (Or.inl ⟨by rfl, ?_⟩) (by assumption) ?_
            rotate_left
            focus
              intro w hSw
              (try dsimp only at hSw)
              go_simp
              try (with_reducible rfl)
            try simp only [List.getElem_toArray, List.getElem_cons_succ, List.getElem_cons_zero, Act.put, List.setIfInBounds_toArray, List.set_cons_zero, List.set_cons_succ]
            refine wpAnyH_take (i := 11) (v := ?_) rfl (by kernel_rfl) (by kernel_rfl) (by kernel_rfl) (fun _ _ _ h => h) (Or.inl ⟨by rfl, ?_⟩) (by assumption) ?_
            rotate_left
            focus
              intro w hSw
              (try dsimp only at hSw)
              go_simp
              try (with_reducible rfl)
            try simp only [List.getElem_toArray, List.getElem_cons_succ, List.getElem_cons_zero, Act.put, List.setIfInBounds_toArray, List.set_cons_zero, List.set_cons_succ]
            refine wpAnyH_take (i := 12) (v := ?_) rfl (by kernel_rfl) (by kernel_rfl) (by kernel_rfl) (fun _ _ _ h => h) (Or.inl ⟨by rfl, ?_⟩) (by assumption) ?_
            rotate_left
            focus
              intro w hSw
              (try dsimp only at hSw)
              go_simp
              try (with_reducible rfl)
            try simp only [List.getElem_toArray, List.getElem_cons_succ, List.getElem_cons_zero, Act.put, List.setIfInBounds_toArray, List.set_cons_zero, List.set_cons_succ]
            refine wpAnyH_take (i := 13) (v := ?_) rfl (by kernel_rfl) (by kernel_rfl) (by kernel_rfl) (fun _ _ _ h => h) (Or.inl ⟨by rfl, ?_⟩) (by assumption) ?_
            rotate_left
            focus
              intro w hSw
              (try dsimp only at hSw)
              go_simp
              try (with_reducible rfl)
            try simp only [List.getElem_toArray, List.getElem_cons_succ, List.getElem_cons_zero, Act.put, List.setIfInBounds_toArray, List.set_cons_zero, List.set_cons_succ]
            refine wpAnyH_take (i := 14) (v := ?_) rfl (by kernel_rfl) (by kernel_rfl) (by kernel_rfl) (fun _ _ _ h => h) (Or.inl ⟨by rfl, ?_⟩) (by assumption) ?_
            rotate_left
            focus
              intro w hSw
              (try dsimp only at hSw)
              go_simp
              try (with_reducible rfl)
            try simp only [List.getElem_toArray, List.getElem_cons_succ, List.getElem_cons_zero, Act.put, List.setIfInBounds_toArray, List.set_cons_zero, List.set_cons_succ]
            refine wpAnyH_take (i := 15) (v := ?_) rfl (by kernel_rfl) (by kernel_rfl) (by kernel_rfl) (fun _ _ _ h => h) (Or.inl ⟨by rfl, ?_⟩) (by assumption) ?_
            rotate_left
            focus
              intro w hSw
              (try dsimp only at hSw)
              go_simp
              try (with_reducible rfl)
            try simp only [List.getElem_toArray, List.getElem_cons_succ, List.getElem_cons_zero, Act.put, List.setIfInBounds_toArray, List.set_cons_zero, List.set_cons_succ]
            refine wpAnyH_take (i := 16) (v := undef) rfl (by kernel_rfl) (by kernel_rfl) (by kernel_rfl) (fun _ _ _ h => h) (Or.inr ⟨by rfl, rfl⟩) (by assumption) ?_
            try simp only [List.getElem_toArray, List.getElem_cons_succ, List.getElem_cons_zero, Act.put, List.setIfInBounds_toArray, List.set_cons_zero, List.set_cons_succ]
            refine wpAnyH_take (i := 17) (v := undef) rfl (by kernel_rfl) (by kernel_rfl) (by kernel_rfl) (fun _ _ _ h => h) (Or.inr ⟨by rfl, rfl⟩) (by assumption) ?_
            try simp only [List.getElem_toArray, List.getElem_cons_succ, List.getElem_cons_zero, Act.put, List.setIfInBounds_toArray, List.set_cons_zero, List.set_cons_succ]
            refine wpAnyH_take (i := 18) (v := undef) rfl (by kernel_rfl) (by kernel_rfl) (by kernel_rfl) (fun _ _ _ h => h) (Or.inr ⟨by rfl, rfl⟩) (by assumption) ?_
            try simp only [List.getElem_toArray, List.getElem_cons_succ, List.getElem_cons_zero, Act.put, List.setIfInBounds_toArray, List.set_cons_zero, List.set_cons_succ]
            refine wpAnyH_take (i := 19) (v := undef) rfl (by kernel_rfl) (by kernel_rfl) (by kernel_rfl) (fun _ _ _ h => h) (Or.inr ⟨by rfl, rfl⟩) (by assumption) ?_
            try simp only [List.getElem_toArray, List.getElem_cons_succ, List.getElem_cons_zero, Act.put, List.setIfInBounds_toArray, List.set_cons_zero, List.set_cons_succ]
            refine wpAnyH_take (i := 20) (v := undef) rfl (by kernel_rfl) (by kernel_rfl) (by kernel_rfl) (fun _ _ _ h => h) (Or.inr ⟨by rfl, rfl⟩) (by assumption) ?_
            try simp only [List.getElem_toArray, List.getElem_cons_succ, List.getElem_cons_zero, Act.put, List.setIfInBounds_toArray, List.set_cons_zero, List.set_cons_succ]
            refine wpAnyH_take (i := 21) (v := undef) rfl (by kernel_rfl) (by kernel_rfl) (by kernel_rfl) (fun _ _ _ h => h) (Or.inr ⟨by rfl, rfl⟩) (by assumption) ?_
            try simp only [List.getElem_toArray, List.getElem_cons_succ, List.getElem_cons_zero, Act.put, List.setIfInBounds_toArray, List.set_cons_zero, List.set_cons_succ]
            refine wpAnyH_take (i := 22) (v := undef) rfl (by kernel_rfl) (by kernel_rfl) (by kernel_rfl) (fun _ _ _ h => h) (Or.inr ⟨by rfl, rfl⟩) (by assumption) ?_
            try simp only [List.getElem_toArray, List.getElem_cons_succ, List.getElem_cons_zero, Act.put, List.setIfInBounds_toArray, List.set_cons_zero, List.set_cons_succ]
            refine wpAnyH_take (i := 23) (v := undef) rfl (by kernel_rfl) (by kernel_rfl) (by kernel_rfl) (fun _ _ _ h => h) (Or.inr ⟨by rfl, rfl⟩) (by assumption) ?_
            try simp only [List.getElem_toArray, List.getElem_cons_succ, List.getElem_cons_zero, Act.put, List.setIfInBounds_toArray, List.set_cons_zero, List.set_cons_succ]
            refine wpAnyH_take (i := 24) (v := undef) rfl (by kernel_rfl) (by kernel_rfl) (by kernel_rfl) (fun _ _ _ h => h) (Or.inr ⟨by rfl, rfl⟩) (by assumption) ?_
            try simp only [List.getElem_toArray, List.getElem_cons_succ, List.getElem_cons_zero, Act.put, List.setIfInBounds_toArray, List.set_cons_zero, List.set_cons_succ]
            refine wpAnyH_take (i := 25) (v := ?_) rfl (by kernel_rfl) (by kernel_rfl) (by kernel_rfl) (fun _ _ _ h => h) (Or.inl ⟨by rfl, ?_⟩) (by assumption) ?_
            rotate_left
            focus
              intro w hSw
              (try dsimp only at hSw)
              go_simp
              try (with_reducible rfl)
            try simp only [List.getElem_toArray, List.getElem_cons_succ, List.getElem_cons_zero, Act.put, List.setIfInBounds_toArray, List.set_cons_zero, List.set_cons_succ]
            refine wpAnyH_take (i := 26) (v := ?_) rfl (by kernel_rfl) (by kernel_rfl) (by kernel_rfl) (fun _ _ _ h => h) (Or.inl ⟨by rfl, ?_⟩) (by assumption) ?_
            rotate_left
            focus
              intro w hSw
              (try dsimp only at hSw)
              go_simp
              try (with_reducible rfl)
            try simp only [List.getElem_toArray, List.getElem_cons_succ, List.getElem_cons_zero, Act.put, List.setIfInBounds_toArray, List.set_cons_zero, List.set_cons_succ]
            refine wpAnyH_done (by kernel_rfl) ?_ _
            have BW := Lib.hid (bth hi3.out hHeld.1)
            go_wp2
            go_roundw
            case rel => exact ⟨k + 1, by omega, by go_num, BW⟩
            case measure => simp [intOf]; omega
        · obtain rfl : k = n + 40 := by omega
          go_wp2
          go_roundw
          case rel => exact ⟨1, by omega, by go_num, Lib.hid (bth (bth hr.out hb0.out) hi3.out)⟩
          case measure => simp [intOf]
    · obtain rfl : i = 1 := by omega
      go_wp2
      go_ret
      exact ⟨rfl, hr.out⟩
end Go.Proofs.YtlicjpbmlmongaaDoor.H
