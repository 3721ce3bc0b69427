/- Written by merge.py out of RefRuns, SBack, RunsLaw. -/
import Derived.Test.YtaekgfmcelckoaaDoorSFew
import Derived.Deep.RegionHeld3
import Derived.BigQuiet
section
/- toolchestref06.Runs: the walk. -/
set_option linter.unusedVariables false
set_option linter.unusedSimpArgs false
namespace Go.Proofs.YtaekgfmcelckoaaDoor.H
open Go.RowKit Go.Shelf Go.Proofs Go.Proofs.YtaekgfmcelckoaaDoor.S Go.Proofs.YtaekgfmcelckoaaDoorW.PrintWords

theorem infoRRun : (Tryd.prog.info? 33).map (fun i => (i.zero, i.size, i.bytes)) = some (some (.agg #[.string ⟨#[]⟩, .int .i64 0]), 2, 24) := by kernel_rfl
section
variable {ops : Array Oper} {rest : List Oper} {o : Oper} {a : Act} {Q : Exit → Act → World → Prop}
theorem app_RRun (w : World) (base : Nat) (hgd : o.guard = none) (s x : Operand) (ho : o.op = .call { callee := .builtin .append, args := #[s, x], argTypes := #[28, 28] })
    (v : Value) (L L2 : List RN) (c : ByteArray) (hL2 : L ++ [(c, 1)] = L2) (hs : a.eval s = v) (hx : a.eval x = .slice (some ⟨w.heap.size, 0, none⟩) 1 1) (HO : w.ownsRow base 33 2 v L.length (flatR L)) (hbase : base ≤ w.heap.size) (hl : L.length + 1 ≤ 1000000000000)
    (h : ∀ v1 w1, w1.ownsRow base 33 2 v1 L2.length (flatR L2) → w.grownBy w1 v.ownBlock → wpList Tryd.prog ops Q rest (a.put o.dst v1) w1) :
    wpList Tryd.prog ops Q (o :: rest) a (w.alloc (.cells #[.string c, .int .i64 1] 33)) := by
  subst hL2
  obtain ⟨i0, hi, hz0, hz1, hz2⟩ := info_parts infoRRun
  refine wpList_append_own _ hgd s x 28 ho base 33 i0 (.agg #[.string ⟨#[]⟩, .int .i64 0]) 2 24 Tryd.underlying28 hi hz0 hz1 hz2 rfl (by decide) v L.length (flatR L) hs (World.ownsRow.alloc HO _) ⟨w.heap.size, 0, none⟩ 1 1 [.string c, .int .i64 1] hx rfl ?c1 ?c2 ?c3 ?c4 ?c5 ?_
  case c1 =>
    intro j u hj
    match j, hj with
    | 0, hj => simp at hj; subst hj; simp [Addr.add]
    | 1, hj => simp at hj; subst hj; simp [Addr.add]
  case c2 => intro u hu; simp at hu; rcases hu with rfl | rfl <;> rfl
  case c3 => unfold maxLen; omega
  case c4 => omega
  case c5 => simp; omega
  intro v1 w1 hown hg _
  refine h v1 w1 ?_ ⟨hg.os, hg.tape, hg.output, by have := hg.size; simp at this; omega, fun k hk hr => (hg.block k (by simp; omega) hr).trans (Lib.alloc_old w _ k hk)⟩
  rw [flatR_app, List.length_append, List.length_singleton]
  exact hown
end
set_option maxHeartbeats 1000000 in
set_option maxRecDepth 100000 in
theorem refRuns_calls (A : Option Addr) (c : Nat) (l : List ByteArray) (f b : Int) (hf : -9223372036854775808 ≤ f ∧ f ≤ 9223372036854775807) (w : World) (hr : Kd.C Kd.string w A l.length l) (hc : l.length ≤ c) (hl : l.length ≤ 2000000) (hs : ∀ s ∈ l, s.size ≤ 100000000) :
    Calls Tryd.prog 14 #[.slice A l.length c, .int .i64 f, .int .i64 b] w fun e w' => ∃ v, e = .returned v ∧ w'.ownsRow w.heap.size 33 2 v (runsN f b l l.length).length (flatR (runsN f b l l.length)) ∧ Below w.heap.size w w' := by
  have HR := Lib.hid hr
  have HS := Lib.hid hs
  clear hr hs
  go_enter Tryd.func14, Tryd.ntmps14
  go_wp2
  go_loopw [7, 8] (fun v i wr => ∃ k : Nat, k ≤ l.length ∧ i = .int .i64 (k : Int) ∧ Hid (wr.ownsRow w.heap.size 33 2 v (runsN f b l k).length (flatR (runsN f b l k)) ∧ Below w.heap.size w wr)) (fun _ i _ => l.length - (intOf i).toNat)
  case atStart => exact ⟨0, Nat.zero_le _, rfl, Lib.hid ⟨World.ownsRow_nil _ _ _ _, Below.refl _ _⟩⟩
  case round =>
    obtain ⟨k, hk, rfl, hst⟩ := hrel
    by_cases hlt : k < l.length
    · have hstep : runsN f b l (k + 1) = if 0 < k ∧ sameP f b (l.getD (k - 1) ⟨#[]⟩) (l.getD k ⟨#[]⟩) = true then bumpR (runsN f b l k) else runsN f b l k ++ [(l.getD k ⟨#[]⟩, 1)] := rfl
      have hlow := hst.out.2
      obtain ⟨ad, rfl, hx⟩ := C_at HR.out hlow k hlt
      have hgk : l.getD k ⟨#[]⟩ = l[k] := by rw [List.getD_eq_getElem?_getD, List.getElem?_eq_getElem hlt]; rfl
      have hxs := HS.out l[k] (List.getElem_mem hlt)
      rw [hgk] at hstep
      obtain ⟨x, hxe⟩ : ∃ x, l[k] = x := ⟨_, rfl⟩
      rw [hxe] at hx hstep hxs
      have hRl := runsN_len f b l k
      have hRne := runsN_ne f b l k
      have hRnum := runsN_num f b l k
      obtain ⟨R, hR⟩ : ∃ R, runsN f b l k = R := ⟨_, rfl⟩
      rw [hR] at hstep hst hRl hRne hRnum
      have HST := Lib.hid hst.out
      have hln := Lib.hid (show R.length + 1 ≤ 1000000000000 by omega)
      clear hst hgk hxe hR
      rcases Nat.eq_zero_or_pos k with rfl | hk0
      · rw [if_neg (by omega)] at hstep
        have HN := Lib.hid hstep
        have hx0 : wr.cell? ad = some (.string x) := by
          have e : ad.add 0 = ad := by unfold Addr.add; rw [if_pos rfl]
          rw [e] at hx; exact hx
        clear hstep hRne hRnum hRl hlow
        go_wp2_with fail
        go_quiet (fail)
        have HQ := Lib.hid (And.intro (pw_own_below HST.out.1 (bdn (Below.refl wr.heap.size wr) nq)) (bdn HST.out.2 nq))
        have hx2 : (wr.drewN nq).cell? ad = some (.string x) := hx0
        generalize wr.drewN nq = wq at HQ hx2 ⊢
        go_wp2_with (at_builtin; go_loud (refine app_RRun wq w.heap.size rfl (.tmp 45) (.tmp 51) rfl u7 R (runsN f b l (0 + 1)) x HN.out.symm rfl rfl HQ.out.1 HQ.out.2.size hln.out ?_))
        intro v1 w5 h5 g5
        have D5 := Lib.hid (And.intro h5 (HQ.out.2.grown g5 HQ.out.2.size (fun b hb => own_base HQ.out.1 b hb)))
        clear h5 g5
        go_wp2
        go_roundw
        case rel => exact ⟨0 + 1, hlt, by go_num, D5⟩
        case measure => simp [intOf]; omega
      · obtain ⟨q, hq⟩ : ∃ q, k = q + 1 := ⟨k - 1, by omega⟩
        have hql : q < l.length := by omega
        obtain ⟨ad', hae, hy⟩ := C_at HR.out hlow q hql
        obtain rfl := Option.some.inj hae
        have hgq : l.getD (k - 1) ⟨#[]⟩ = l[q] := by rw [show k - 1 = q by omega, List.getD_eq_getElem?_getD, List.getElem?_eq_getElem hql]; rfl
        have hys := HS.out l[q] (List.getElem_mem hql)
        rw [hgq] at hstep
        obtain ⟨y, hye⟩ : ∃ y, l[q] = y := ⟨_, rfl⟩
        rw [hye] at hy hstep hys
        obtain ⟨d, hd⟩ : ∃ d, sameP f b y x = d := ⟨_, rfl⟩
        have HLY := Lib.hid (fun V => refLeft_calls y f b hys hf V)
        have HLX := Lib.hid (fun V => refLeft_calls x f b hxs hf V)
        have hsp : sameP f b y x = ((bs (leftL f b y.data.toList)).toList == (bs (leftL f b x.data.toList)).toList) := rfl
        obtain ⟨ly, hly⟩ : ∃ s, bs (leftL f b y.data.toList) = s := ⟨_, rfl⟩
        obtain ⟨lx, hlx⟩ : ∃ s, bs (leftL f b x.data.toList) = s := ⟨_, rfl⟩
        rw [hly] at HLY hsp
        rw [hlx] at HLX hsp
        rw [hd] at hsp
        have HSP := Lib.hid hsp
        have HCE := Lib.hid (show ∀ V, Below wr.heap.size wr V → V.cell? (ad.add q) = some (.string y) ∧ V.cell? (ad.add k) = some (.string x) from fun V h => ⟨pw_cell_below h hy, pw_cell_below h hx⟩)
        have d3 : decide ((0 : Int) < (k : Int)) = true := decide_eq_true (by omega)
        have d3' : decide (0 < k) = true := decide_eq_true hk0
        clear hly hlx hsp
        rw [hd] at hstep
        have q1 : ((k : Int) - 1) = (q : Int) := by omega
        have q2 : IntKind.i64.wrap ((k : Int) - 1) = (q : Int) := by rw [q1]; exact IntWalk.i64_in _ (by omega)
        have q3 : (q : Int) < (l.length : Int) := by omega
        have q5 : (0 : Int) ≤ (q : Int) := Int.natCast_nonneg _
        have q6 : IntKind.i64.wrap (q : Int) = (q : Int) := IntWalk.i64_in _ (by omega)
        have hqc : q < c := by omega
        have HRN := Lib.hid (And.intro (hRne hk0) hRnum)
        clear hq hgq hye hd hlow hRne hRnum hys hxs
        go_wp2_with fail
        go_region_held3 (fun V => Below wr.heap.size wr V ∧ V.cell? (ad.add q) = some (.string y) ∧ V.cell? (ad.add k) = some (.string x))
          (with_reducible first | assumption | exact ⟨by assumption, HCE.out _ (by assumption)⟩ | exact ⟨bdr (Below.refl _ _), HCE.out _ (bdr (Below.refl _ _))⟩ | exact ⟨Below.refl _ _, HCE.out _ (Below.refl _ _)⟩) ((first
          | (go_at_call 28; with_reducible refine (HLY.out _).mono ?_; rintro e w' ⟨rfl, hbq⟩; have hbq := bth (show Below wr.heap.size wr _ ∧ _ from by assumption).1 hbq)
          | (go_at_call 28; with_reducible refine (HLX.out _).mono ?_; rintro e w' ⟨rfl, hbq⟩; have hbq := bth (show Below wr.heap.size wr _ ∧ _ from by assumption).1 hbq)))
        rename World => w2
        have hb2 : Below wr.heap.size wr w2 := (show Below wr.heap.size wr _ ∧ _ from by assumption).1
        have H2 := Lib.hid (And.intro (pw_own_below HST.out.1 hb2) (bth HST.out.2 hb2))
        have hx2 := (HCE.out _ hb2).2
        rw [← HSP.out]
        clear hb2
        cases d
        · rw [if_neg (by simp)] at hstep
          have HN := Lib.hid hstep
          clear hstep
          go_wp2_with (at_builtin; go_loud (refine app_RRun w2 w.heap.size rfl (.tmp 45) (.tmp 51) rfl u7 R (runsN f b l (k + 1)) x HN.out.symm rfl rfl H2.out.1 H2.out.2.size hln.out ?_))
          intro v1 w5 h5 g5
          have D5 := Lib.hid (And.intro h5 (H2.out.2.grown g5 H2.out.2.size (fun b hb => own_base H2.out.1 b hb)))
          clear h5 g5
          go_wp2
          go_roundw
          case rel => exact ⟨k + 1, hlt, by go_num, D5⟩
          case measure => simp [intOf]; omega
        · rw [if_pos ⟨hk0, rfl⟩] at hstep
          rcases List.eq_nil_or_concat R with e | ⟨R0, z, e⟩
          · exact absurd e HRN.out.1
          · rw [List.concat_eq_append] at e
            have hz := (HRN.out.2 z (by rw [e]; simp)).2
            rw [e, bump_snoc] at hstep
            have HN := Lib.hid hstep
            have ho2 := H2.out.1
            rw [e] at ho2 hRl
            rw [List.length_append, List.length_singleton] at hRl
            obtain ⟨g, cap, hu, hgb, hgl, hgc, hgm⟩ := own_formN ho2 (by simp)
            rw [List.length_append, List.length_singleton] at hu hgc
            obtain ⟨N, hN⟩ : ∃ N, R0.length = N := ⟨_, rfl⟩
            rw [hN] at hu hgc hRl
            have ho3 : w2.ownsRow w.heap.size 33 2 (.slice (some ⟨g, 0, none⟩) (N + 1) cap) (N + 1) (flatR (R0 ++ [z])) := by
              rw [List.length_append, List.length_singleton, hN, hu] at ho2; exact ho2
            have hc3 : w2.cell? ⟨g, N * 2 + 1, none⟩ = some (.int .i64 (z.2 : Int)) := by
              have h := (flatR_get (R0 ++ [z]) N (by simp; omega)).2
              have h2 := ho3.cells (g := g) rfl (N * 2 + 1) _ h
              rw [add_plain] at h2
              simpa [← hN] using h2
            have hf3 := ho3.frozenAt (N * 2 + 1)
            have hset := own_setj ho3 (N * 2 + 1) (by rw [flatR_len]; simp; omega) (.int .i64 ((z.2 : Int) + 1))
            rw [← hN, flatR_bump R0 z, hN] at hset
            have HSET := Lib.hid hset
            have HB2 := Lib.hid (And.intro H2.out.2 hgb)
            have n1 : ((N : Int) + 1 - 1) = (N : Int) := by omega
            have hzk : z.2 ≤ 2000000 := by omega
            have HLN := Lib.hid (show (R0 ++ [(z.1, z.2 + 1)]).length = N + 1 by rw [List.length_append, List.length_singleton, hN])
            subst hu
            clear hstep ho2 ho3 hset e hN
            go_wp2
            go_roundw
            case rel => exact ⟨k + 1, hlt, by go_num, Lib.hid ⟨by rw [HN.out, HLN.out]; exact HSET.out, HB2.out.1.setCell (p := ⟨g, _, none⟩) HB2.out.2 _⟩⟩
            case measure => simp [intOf]; omega
    · obtain rfl : k = l.length := by omega
      have HE := Lib.hid hst.out
      clear hst
      go_wp2
      go_ret
      exact ⟨_, rfl, HE.out⟩
end Go.Proofs.YtaekgfmcelckoaaDoor.H

end
section
/- Runs of lines: what is told of them, plain. -/
set_option linter.unusedVariables false
set_option linter.unusedSimpArgs false
namespace Go.Proofs.YtaekgfmcelckoaaDoor.P
open Go.RowKit Go.Proofs.YtaekgfmcelckoaaDoor.Q Go.Proofs.YtaekgfmcelckoaaDoor.H Go.Proofs.YtaekgfmcelckoaaDoor.K Go.Proofs.YtaekgfmcelckoaaDoor.S Go.Proofs.YtaekgfmcelckoaaDoorW.PrintWords Go.Proofs.YtaekgfmcelckoaaDoorW.PrintLast

theorem left_zero (t : List UInt8) : leftL 0 0 t = t := by
  unfold leftL
  have e : skipF (0 : Int).toNat t = t := rfl
  rw [e]
  have : (max 0 (min 0 ((t.length : Nat) : Int))).toNat = 0 := by omega
  rw [this]; rfl
theorem same_zero (x y : ByteArray) : sameP 0 0 x y = true ↔ x = y := by
  unfold sameP
  rw [left_zero, left_zero, S.bs_of, S.bs_of, beq_iff_eq, ByteArray.toList_eq, ByteArray.toList_eq]
  exact ⟨fun h => K.ext_bytes h, fun h => by rw [h]⟩
theorem same_refl (f b : Int) (x : ByteArray) : sameP f b x x = true := by unfold sameP; simp
theorem runs_len (f b : Int) (l : List ByteArray) : ∀ k, (runsN f b l k).length ≤ (runsN 0 0 l k).length
  | 0 => Nat.le_refl _
  | k + 1 => by
    have ih := runs_len f b l k
    simp only [runsN]
    by_cases h : 0 < k ∧ sameP 0 0 (l.getD (k - 1) ⟨#[]⟩) (l.getD k ⟨#[]⟩) = true
    · rw [if_pos h, if_pos ⟨h.1, by rw [(same_zero _ _).1 h.2]; exact same_refl _ _ _⟩, bump_len, bump_len]
      exact ih
    · rw [if_neg h, List.length_append]
      split
      · rw [bump_len]; omega
      · rw [List.length_append]; simp; exact ih
def totR (R : List RN) : Nat := (R.map (·.2)).sum
theorem tot_app (L M : List RN) : totR (L ++ M) = totR L + totR M := by simp [totR]
def startsAt (l : List ByteArray) : Nat → List RN → Prop
  | _, [] => True
  | p, r :: R => l[p]? = some r.1 ∧ startsAt l (p + r.2) R
theorem starts_app (l : List ByteArray) : ∀ (L M : List RN) (p : Nat), startsAt l p (L ++ M) ↔ startsAt l p L ∧ startsAt l (p + totR L) M
  | [], M, p => by simp [startsAt, totR]
  | r :: L, M, p => by
    have e : totR (r :: L) = r.2 + totR L := by simp [totR]
    rw [List.cons_append, startsAt, startsAt, starts_app l L M, e, Nat.add_assoc, and_assoc]
theorem last_of {α : Type} (R : List α) (h : R ≠ []) : ∃ L x, R = L ++ [x] := by
  rcases List.eq_nil_or_concat R with e | ⟨L, x, e⟩
  · exact absurd e h
  · exact ⟨L, x, by rw [e, List.concat_eq_append]⟩
theorem getD_at (l : List ByteArray) (k : Nat) (h : k < l.length) : l.getD k ⟨#[]⟩ = l[k] := by simp [List.getD_eq_getElem?_getD, h]
theorem runs_starts (f b : Int) (l : List ByteArray) : ∀ k, k ≤ l.length → totR (runsN f b l k) = k ∧ startsAt l 0 (runsN f b l k)
  | 0, _ => ⟨rfl, trivial⟩
  | k + 1, hk => by
    obtain ⟨i1, i2⟩ := runs_starts f b l k (by omega)
    simp only [runsN]
    split
    · rename_i h
      obtain ⟨L, x, e⟩ := last_of _ (runsN_ne f b l k h.1)
      rw [e] at i1 i2 ⊢
      rw [bump_snoc]
      rw [tot_app] at i1 ⊢
      rw [starts_app] at i2 ⊢
      refine ⟨?_, i2.1, i2.2.1, trivial⟩
      simp [totR] at i1 ⊢
      omega
    · rw [tot_app, starts_app, i1]
      refine ⟨by simp [totR], i2, ?_, trivial⟩
      rw [getD_at l k (by omega)]
      simp
def adjB : List ByteArray → Prop
  | x :: y :: l => y ≠ x ∧ adjB (y :: l)
  | _ => True
theorem adj_snoc (x y : ByteArray) (h : y ≠ x) : ∀ L : List ByteArray, adjB (L ++ [x]) → adjB (L ++ [x] ++ [y])
  | [], _ => ⟨h, trivial⟩
  | [z], h2 => ⟨h2.1, h, trivial⟩
  | z :: t :: L, h2 => ⟨h2.1, adj_snoc x y h (t :: L) h2.2⟩
theorem adj_at : ∀ (L : List ByteArray) (i : Nat) (h : i + 1 < L.length), adjB L → L[i + 1] ≠ L[i]
  | x :: y :: L, 0, _, h => h.1
  | x :: y :: L, i + 1, hi, h => adj_at (y :: L) i (by simpa using hi) h.2
  | [x], i, hi, _ => by simp at hi
def expandR (R : List RN) : List ByteArray := R.flatMap (fun r => List.replicate r.2 r.1)
theorem expand_app (L M : List RN) : expandR (L ++ M) = expandR L ++ expandR M := List.flatMap_append
theorem expand_one (x : RN) : expandR [x] = List.replicate x.2 x.1 := by simp [expandR]
theorem runs_back (l : List ByteArray) : ∀ k, k ≤ l.length → expandR (runsN 0 0 l k) = l.take k ∧ adjB ((runsN 0 0 l k).map (·.1)) ∧ (∀ L x, runsN 0 0 l k = L ++ [x] → 0 < k ∧ l.getD (k - 1) ⟨#[]⟩ = x.1)
  | 0, _ => ⟨rfl, trivial, fun L x h => by simp [runsN] at h⟩
  | k + 1, hk => by
    obtain ⟨i1, i2, i3⟩ := runs_back l k (by omega)
    have hlt : k < l.length := by omega
    simp only [runsN]
    split
    · rename_i h
      obtain ⟨L, x, e⟩ := last_of _ (runsN_ne 0 0 l k h.1)
      have hx := (i3 L x e).2
      have hy := (same_zero _ _).1 h.2
      rw [e] at i1 i2 ⊢
      rw [bump_snoc]
      refine ⟨?_, ?_, fun L' x' h' => ?_⟩
      · rw [expand_app, expand_one] at i1 ⊢
        rw [List.replicate_succ', ← List.append_assoc, i1, List.take_succ_eq_append_getElem hlt, ← hx, hy, getD_at l k hlt]
      · simpa using i2
      · obtain ⟨-, h2⟩ := List.append_inj' h' rfl
        have h2 := List.singleton_inj.1 h2
        refine ⟨by omega, ?_⟩
        rw [← h2, Nat.add_sub_cancel, ← hy]
        exact hx
    · rename_i h
      refine ⟨?_, ?_, fun L' x' h' => ?_⟩
      · rw [expand_app, expand_one, i1, List.take_succ_eq_append_getElem hlt, getD_at l k hlt]
        rfl
      · by_cases hk0 : 0 < k
        · obtain ⟨L, x, e⟩ := last_of _ (runsN_ne 0 0 l k hk0)
          have hx := (i3 L x e).2
          rw [e] at i2 ⊢
          rw [List.map_append, List.map_append] at *
          refine adj_snoc _ _ (fun h3 => h ⟨hk0, (same_zero _ _).2 ?_⟩) _ i2
          rw [hx]
          exact h3.symm
        · obtain rfl : k = 0 := by omega
          exact trivial
      · obtain ⟨-, h2⟩ := List.append_inj' h' rfl
        have h2 := List.singleton_inj.1 h2
        refine ⟨by omega, ?_⟩
        rw [← h2, Nat.add_sub_cancel]
/-- What the law asks of the runs without skipping. -/
theorem back_at (l : List ByteArray) (i : Nat) (h : i + 1 < (runsN 0 0 l l.length).length) : (runsN 0 0 l l.length)[i + 1].1 ≠ (runsN 0 0 l l.length)[i].1 := by
  have := adj_at _ i (by rw [List.length_map]; exact h) (runs_back l l.length (Nat.le_refl _)).2.1
  simpa using this
theorem back_all (l : List ByteArray) : expandR (runsN 0 0 l l.length) = l := by
  have := (runs_back l l.length (Nat.le_refl _)).1
  rwa [List.take_length] at this
theorem expand_take (R : List RN) (i : Nat) (h : i < R.length) : expandR (R.take (i + 1)) = expandR (R.take i) ++ List.replicate R[i].2 R[i].1 := by
  rw [List.take_succ_eq_append_getElem h, expand_app, expand_one]
theorem tot_take (R : List RN) (i : Nat) (h : i < R.length) : totR (R.take (i + 1)) = totR (R.take i) + R[i].2 := by
  rw [List.take_succ_eq_append_getElem h, tot_app]; simp [totR]
theorem start_at (f b : Int) (l : List ByteArray) (i : Nat) (h : i < (runsN f b l l.length).length) : ∃ hp : totR ((runsN f b l l.length).take i) < l.length, l[totR ((runsN f b l l.length).take i)] = (runsN f b l l.length)[i].1 := by
  have hs := (runs_starts f b l l.length (Nat.le_refl _)).2
  have e : runsN f b l l.length = (runsN f b l l.length).take i ++ (runsN f b l l.length)[i] :: (runsN f b l l.length).drop (i + 1) := by
    rw [← List.drop_eq_getElem_cons h, List.take_append_drop]
  generalize hR : runsN f b l l.length = R at *
  rw [e, starts_app] at hs
  have h2 := hs.2.1
  rw [Nat.zero_add] at h2
  exact List.getElem?_eq_some_iff.1 h2
theorem tot_all (f b : Int) (l : List ByteArray) : totR (runsN f b l l.length) = l.length := (runs_starts f b l l.length (Nat.le_refl _)).1
end Go.Proofs.YtaekgfmcelckoaaDoor.P

end
section
/- SortsRuns: the walk of the law. -/
set_option linter.unusedVariables false
set_option linter.unusedSimpArgs false
namespace Go.Proofs.YtaekgfmcelckoaaDoor.P
open Go.RowKit Go.Proofs Go.Proofs.YtaekgfmcelckoaaDoor.Q Go.Proofs.YtaekgfmcelckoaaDoor.H Go.Proofs.YtaekgfmcelckoaaDoor.K Go.Proofs.YtaekgfmcelckoaaDoor.S Go.Proofs.YtaekgfmcelckoaaDoorW.PrintWords Go.Proofs.YtaekgfmcelckoaaDoorW.PrintLast

theorem texts_bound (l : List ByteArray) (h : textsN l ≤ 1048576) : l.length ≤ 1048576 ∧ ∀ s ∈ l, s.size ≤ 1048576 := by
  refine ⟨by unfold textsN at h; omega, fun s hs => ?_⟩
  have : ∀ m : List ByteArray, s ∈ m → s.size ≤ textsN m := by
    intro m
    induction m with
    | nil => intro h; cases h
    | cons x m ih =>
      intro h
      have e : textsN (x :: m) = textsN m + (x.size + 1) := by simp [textsN]; omega
      rcases List.mem_cons.1 h with rfl | h
      · omega
      · have := ih h; omega
  have := this l hs
  omega
/-- Runs of which the first k are taken away. -/
def zeroR (R : List RN) (k : Nat) : List RN := List.replicate k (⟨#[]⟩, 0) ++ R.drop k
theorem zeroR_len (R : List RN) (k : Nat) (h : k ≤ R.length) : (zeroR R k).length = R.length := by
  unfold zeroR; rw [List.length_append, List.length_replicate, List.length_drop]; omega
theorem zeroR_at (R : List RN) (k : Nat) (h : k < R.length) : (zeroR R k)[k]'(by rw [zeroR_len R k (by omega)]; exact h) = R[k] := by
  unfold zeroR
  rw [List.getElem_append_right (by simp)]
  simp
theorem zeroR_set (R : List RN) (k : Nat) (h : k < R.length) : ((flatR (zeroR R k)).set (k * 2) (.string ⟨#[]⟩)).set (k * 2 + 1) (.int .i64 0) = flatR (zeroR R (k + 1)) := by
  unfold zeroR
  rw [List.drop_eq_getElem_cons h, flatR_app, flatR_app]
  have e : (flatR (List.replicate k ((⟨#[]⟩, 0) : RN))).length = k * 2 := by rw [flatR_len, List.length_replicate]
  rw [List.set_append_right _ _ (by omega), List.set_append_right _ _ (by omega), e, Nat.sub_self, show k * 2 + 1 - k * 2 = 1 by omega]
  rw [List.replicate_succ', flatR_app, List.append_assoc]
  rfl
/-- What the loops hold: the first answer's row, and every other block as it lay. -/
structure RL (w w8 : World) (base : Nat) (v : Value) (R : List RN) (k : Nat) (V : World) : Prop where
  own : V.ownsRow base 32 2 v R.length (flatR (zeroR R k))
  low : Below w.heap.size w V
  far : ∀ g, g < w8.heap.size → v.ownBlock ≠ some g → V.heap[g]? = w8.heap[g]?
theorem RL.step {w w8 : World} {g base c : Nat} {R : List RN} {k : Nat} {V : World} (h : RL w w8 base (.slice (some ⟨g, 0, none⟩) R.length c) R k V) (hk : k < R.length) (hb : w.heap.size ≤ g) : RL w w8 base (.slice (some ⟨g, 0, none⟩) R.length c) R (k + 1) ((V.setCell ⟨g, k * 2, none⟩ (.string ⟨#[]⟩)).setCell ⟨g, k * 2 + 1, none⟩ (.int .i64 0)) := by
  have hl : (flatR (zeroR R k)).length = R.length * 2 := by rw [flatR_len, zeroR_len R k (by omega)]
  have h1 := own_setj h.own (k * 2) (by rw [hl]; omega) (.string ⟨#[]⟩)
  have h2 := own_setj h1 (k * 2 + 1) (by rw [List.length_set, hl]; omega) (.int .i64 0)
  rw [zeroR_set R k hk] at h2
  refine ⟨h2, (h.low.setCell (p := ⟨g, _, none⟩) hb _).setCell (p := ⟨g, _, none⟩) hb _, fun g' hg hne => ?_⟩
  have hne' : g' ≠ g := fun e => hne (by rw [e]; rfl)
  exact (Below.heap_setCell _ _ _ g' hne').trans ((Below.heap_setCell _ _ _ g' hne').trans (h.far g' hg hne))
theorem RL.cells {w w8 : World} {g base c : Nat} {R : List RN} {k : Nat} {V : World} (h : RL w w8 base (.slice (some ⟨g, 0, none⟩) R.length c) R k V) (hk : k < R.length) : V.cell? ⟨g, k * 2, none⟩ = some (.string R[k].1) ∧ V.cell? ⟨g, k * 2 + 1, none⟩ = some (.int .i64 (R[k].2 : Int)) ∧ V.frozen? ⟨g, k * 2, none⟩ = false ∧ V.frozen? ⟨g, k * 2 + 1, none⟩ = false ∧ (V.setCell ⟨g, k * 2, none⟩ (.string ⟨#[]⟩)).frozen? ⟨g, k * 2 + 1, none⟩ = false := by
  have hz : k < (zeroR R k).length := by rw [zeroR_len R k (by omega)]; exact hk
  obtain ⟨x0, x1⟩ := flatR_get (zeroR R k) k hz
  rw [zeroR_at R k hk] at x0 x1
  have c0 := h.own.cells (g := g) rfl (k * 2) _ x0
  have c1 := h.own.cells (g := g) rfl (k * 2 + 1) _ x1
  rw [add_plain] at c0 c1
  have hl : (flatR (zeroR R k)).length = R.length * 2 := by rw [flatR_len, zeroR_len R k (by omega)]
  have h1 := own_setj h.own (k * 2) (by rw [hl]; omega) (.string ⟨#[]⟩)
  exact ⟨c0, c1, h.own.frozenAt _, h.own.frozenAt _, h1.frozenAt _⟩
end Go.Proofs.YtaekgfmcelckoaaDoor.P

end
