/- The book of lists: Apart tells true of lists of texts that lie apart. -/
import Derived.Test.YtiibaggpaabfcaaDoorBook5
set_option linter.unusedVariables false
set_option linter.unusedSimpArgs false
namespace Go.Proofs.YtiibaggpaabfcaaDoor.H
open Go.RowKit Go.Proofs.YtiibaggpaabfcaaDoorW.PrintWords Go.Proofs

set_option maxHeartbeats 1000000 in
theorem fillByte_none (Bk : Nat) (T : Value) (m : Nat) (L : List Held) (w : World) (h : Book Bk T m L w) :
    Calls Tryd.prog 22 #[.pointer (some ⟨Bk, 0, none⟩)] w fun e w' => e = .returned (.tuple #[]) ∧ w = w' := by
  have c0 : w.cell? ⟨Bk, 1, none⟩ = some (.slice none 0 0) := blk_cell' h.at_ 1
  clear h
  go_enter Tryd.func22, Tryd.ntmps22
  go_wp2
  go_loopw [2] (fun i wr => i = .int .i64 0 ∧ w = wr) (fun _ _ => 0)
  case atStart => exact ⟨rfl, rfl⟩
  case round =>
    obtain ⟨rfl, rfl⟩ := hrel
    go_wp2
    go_end0
    exact ⟨rfl, rfl⟩
set_option maxHeartbeats 1000000 in
theorem growByte_none (Bk : Nat) (T : Value) (m : Nat) (L : List Held) (w : World) (h : Book Bk T m L w) :
    Calls Tryd.prog 34 #[.pointer (some ⟨Bk, 0, none⟩)] w fun e w' => e = .returned (.tuple #[]) ∧ w = w' := by
  have c0 : w.cell? ⟨Bk, 1, none⟩ = some (.slice none 0 0) := blk_cell' h.at_ 1
  clear h
  go_enter Tryd.func34, Tryd.ntmps34
  go_wp2
  go_loopw [2] (fun i wr => i = .int .i64 0 ∧ w = wr) (fun _ _ => 0)
  case atStart => exact ⟨rfl, rfl⟩
  case round =>
    obtain ⟨rfl, rfl⟩ := hrel
    go_wp2
    go_end0
    exact ⟨rfl, rfl⟩
set_option maxHeartbeats 1000000 in
theorem lookByte_none (Bk : Nat) (T : Value) (m : Nat) (L : List Held) (w : World) (h : Book Bk T m L w) :
    Calls Tryd.prog 46 #[.pointer (some ⟨Bk, 0, none⟩)] w fun e w' => e = .returned (.bool true) ∧ w = w' := by
  have c0 : w.cell? ⟨Bk, 1, none⟩ = some (.slice none 0 0) := blk_cell' h.at_ 1
  clear h
  go_enter Tryd.func46, Tryd.ntmps46
  go_wp2
  go_loopw [3] (fun i wr => i = .int .i64 0 ∧ w = wr) (fun _ _ => 0)
  case atStart => exact ⟨rfl, rfl⟩
  case round =>
    obtain ⟨rfl, rfl⟩ := hrel
    go_wp2
    go_ret
    exact ⟨rfl, rfl⟩
set_option maxHeartbeats 1000000 in
theorem fillInt_none (Bk : Nat) (T : Value) (m : Nat) (L : List Held) (w : World) (h : Book Bk T m L w) :
    Calls Tryd.prog 23 #[.pointer (some ⟨Bk, 0, none⟩)] w fun e w' => e = .returned (.tuple #[]) ∧ w = w' := by
  have c0 : w.cell? ⟨Bk, 2, none⟩ = some (.slice none 0 0) := blk_cell' h.at_ 2
  clear h
  go_enter Tryd.func23, Tryd.ntmps23
  go_wp2
  go_loopw [2] (fun i wr => i = .int .i64 0 ∧ w = wr) (fun _ _ => 0)
  case atStart => exact ⟨rfl, rfl⟩
  case round =>
    obtain ⟨rfl, rfl⟩ := hrel
    go_wp2
    go_end0
    exact ⟨rfl, rfl⟩
set_option maxHeartbeats 1000000 in
theorem growInt_none (Bk : Nat) (T : Value) (m : Nat) (L : List Held) (w : World) (h : Book Bk T m L w) :
    Calls Tryd.prog 35 #[.pointer (some ⟨Bk, 0, none⟩)] w fun e w' => e = .returned (.tuple #[]) ∧ w = w' := by
  have c0 : w.cell? ⟨Bk, 2, none⟩ = some (.slice none 0 0) := blk_cell' h.at_ 2
  clear h
  go_enter Tryd.func35, Tryd.ntmps35
  go_wp2
  go_loopw [2] (fun i wr => i = .int .i64 0 ∧ w = wr) (fun _ _ => 0)
  case atStart => exact ⟨rfl, rfl⟩
  case round =>
    obtain ⟨rfl, rfl⟩ := hrel
    go_wp2
    go_end0
    exact ⟨rfl, rfl⟩
set_option maxHeartbeats 1000000 in
theorem lookInt_none (Bk : Nat) (T : Value) (m : Nat) (L : List Held) (w : World) (h : Book Bk T m L w) :
    Calls Tryd.prog 47 #[.pointer (some ⟨Bk, 0, none⟩)] w fun e w' => e = .returned (.bool true) ∧ w = w' := by
  have c0 : w.cell? ⟨Bk, 2, none⟩ = some (.slice none 0 0) := blk_cell' h.at_ 2
  clear h
  go_enter Tryd.func47, Tryd.ntmps47
  go_wp2
  go_loopw [3] (fun i wr => i = .int .i64 0 ∧ w = wr) (fun _ _ => 0)
  case atStart => exact ⟨rfl, rfl⟩
  case round =>
    obtain ⟨rfl, rfl⟩ := hrel
    go_wp2
    go_ret
    exact ⟨rfl, rfl⟩
set_option maxHeartbeats 1000000 in
theorem fillBlob_none (Bk : Nat) (T : Value) (m : Nat) (L : List Held) (w : World) (h : Book Bk T m L w) :
    Calls Tryd.prog 25 #[.pointer (some ⟨Bk, 0, none⟩)] w fun e w' => e = .returned (.tuple #[]) ∧ w = w' := by
  have c0 : w.cell? ⟨Bk, 4, none⟩ = some (.slice none 0 0) := blk_cell' h.at_ 4
  clear h
  go_enter Tryd.func25, Tryd.ntmps25
  go_wp2
  go_loopw [2] (fun i wr => i = .int .i64 0 ∧ w = wr) (fun _ _ => 0)
  case atStart => exact ⟨rfl, rfl⟩
  case round =>
    obtain ⟨rfl, rfl⟩ := hrel
    go_wp2
    go_end0
    exact ⟨rfl, rfl⟩
set_option maxHeartbeats 1000000 in
theorem growBlob_none (Bk : Nat) (T : Value) (m : Nat) (L : List Held) (w : World) (h : Book Bk T m L w) :
    Calls Tryd.prog 37 #[.pointer (some ⟨Bk, 0, none⟩)] w fun e w' => e = .returned (.tuple #[]) ∧ w = w' := by
  have c0 : w.cell? ⟨Bk, 4, none⟩ = some (.slice none 0 0) := blk_cell' h.at_ 4
  clear h
  go_enter Tryd.func37, Tryd.ntmps37
  go_wp2
  go_loopw [2] (fun i wr => i = .int .i64 0 ∧ w = wr) (fun _ _ => 0)
  case atStart => exact ⟨rfl, rfl⟩
  case round =>
    obtain ⟨rfl, rfl⟩ := hrel
    go_wp2
    go_end0
    exact ⟨rfl, rfl⟩
set_option maxHeartbeats 1000000 in
theorem lookBlob_none (Bk : Nat) (T : Value) (m : Nat) (L : List Held) (w : World) (h : Book Bk T m L w) :
    Calls Tryd.prog 49 #[.pointer (some ⟨Bk, 0, none⟩)] w fun e w' => e = .returned (.bool true) ∧ w = w' := by
  have c0 : w.cell? ⟨Bk, 4, none⟩ = some (.slice none 0 0) := blk_cell' h.at_ 4
  clear h
  go_enter Tryd.func49, Tryd.ntmps49
  go_wp2
  go_loopw [3] (fun i wr => i = .int .i64 0 ∧ w = wr) (fun _ _ => 0)
  case atStart => exact ⟨rfl, rfl⟩
  case round =>
    obtain ⟨rfl, rfl⟩ := hrel
    go_wp2
    go_ret
    exact ⟨rfl, rfl⟩
set_option maxHeartbeats 1000000 in
theorem fillRow_none (Bk : Nat) (T : Value) (m : Nat) (L : List Held) (w : World) (h : Book Bk T m L w) :
    Calls Tryd.prog 26 #[.pointer (some ⟨Bk, 0, none⟩)] w fun e w' => e = .returned (.tuple #[]) ∧ w = w' := by
  have c0 : w.cell? ⟨Bk, 5, none⟩ = some (.slice none 0 0) := blk_cell' h.at_ 5
  clear h
  go_enter Tryd.func26, Tryd.ntmps26
  go_wp2
  go_loopw [2] (fun i wr => i = .int .i64 0 ∧ w = wr) (fun _ _ => 0)
  case atStart => exact ⟨rfl, rfl⟩
  case round =>
    obtain ⟨rfl, rfl⟩ := hrel
    go_wp2
    go_end0
    exact ⟨rfl, rfl⟩
set_option maxHeartbeats 1000000 in
theorem growRow_none (Bk : Nat) (T : Value) (m : Nat) (L : List Held) (w : World) (h : Book Bk T m L w) :
    Calls Tryd.prog 38 #[.pointer (some ⟨Bk, 0, none⟩)] w fun e w' => e = .returned (.tuple #[]) ∧ w = w' := by
  have c0 : w.cell? ⟨Bk, 5, none⟩ = some (.slice none 0 0) := blk_cell' h.at_ 5
  clear h
  go_enter Tryd.func38, Tryd.ntmps38
  go_wp2
  go_loopw [2] (fun i wr => i = .int .i64 0 ∧ w = wr) (fun _ _ => 0)
  case atStart => exact ⟨rfl, rfl⟩
  case round =>
    obtain ⟨rfl, rfl⟩ := hrel
    go_wp2
    go_end0
    exact ⟨rfl, rfl⟩
set_option maxHeartbeats 1000000 in
theorem lookRow_none (Bk : Nat) (T : Value) (m : Nat) (L : List Held) (w : World) (h : Book Bk T m L w) :
    Calls Tryd.prog 50 #[.pointer (some ⟨Bk, 0, none⟩)] w fun e w' => e = .returned (.bool true) ∧ w = w' := by
  have c0 : w.cell? ⟨Bk, 5, none⟩ = some (.slice none 0 0) := blk_cell' h.at_ 5
  clear h
  go_enter Tryd.func50, Tryd.ntmps50
  go_wp2
  go_loopw [3] (fun i wr => i = .int .i64 0 ∧ w = wr) (fun _ _ => 0)
  case atStart => exact ⟨rfl, rfl⟩
  case round =>
    obtain ⟨rfl, rfl⟩ := hrel
    go_wp2
    go_ret
    exact ⟨rfl, rfl⟩
set_option maxHeartbeats 1000000 in
theorem fillFlag_none (Bk : Nat) (T : Value) (m : Nat) (L : List Held) (w : World) (h : Book Bk T m L w) :
    Calls Tryd.prog 27 #[.pointer (some ⟨Bk, 0, none⟩)] w fun e w' => e = .returned (.tuple #[]) ∧ w = w' := by
  have c0 : w.cell? ⟨Bk, 6, none⟩ = some (.slice none 0 0) := blk_cell' h.at_ 6
  clear h
  go_enter Tryd.func27, Tryd.ntmps27
  go_wp2
  go_loopw [2] (fun i wr => i = .int .i64 0 ∧ w = wr) (fun _ _ => 0)
  case atStart => exact ⟨rfl, rfl⟩
  case round =>
    obtain ⟨rfl, rfl⟩ := hrel
    go_wp2
    go_end0
    exact ⟨rfl, rfl⟩
set_option maxHeartbeats 1000000 in
theorem growFlag_none (Bk : Nat) (T : Value) (m : Nat) (L : List Held) (w : World) (h : Book Bk T m L w) :
    Calls Tryd.prog 39 #[.pointer (some ⟨Bk, 0, none⟩)] w fun e w' => e = .returned (.tuple #[]) ∧ w = w' := by
  have c0 : w.cell? ⟨Bk, 6, none⟩ = some (.slice none 0 0) := blk_cell' h.at_ 6
  clear h
  go_enter Tryd.func39, Tryd.ntmps39
  go_wp2
  go_loopw [2] (fun i wr => i = .int .i64 0 ∧ w = wr) (fun _ _ => 0)
  case atStart => exact ⟨rfl, rfl⟩
  case round =>
    obtain ⟨rfl, rfl⟩ := hrel
    go_wp2
    go_end0
    exact ⟨rfl, rfl⟩
set_option maxHeartbeats 1000000 in
theorem lookFlag_none (Bk : Nat) (T : Value) (m : Nat) (L : List Held) (w : World) (h : Book Bk T m L w) :
    Calls Tryd.prog 51 #[.pointer (some ⟨Bk, 0, none⟩)] w fun e w' => e = .returned (.bool true) ∧ w = w' := by
  have c0 : w.cell? ⟨Bk, 6, none⟩ = some (.slice none 0 0) := blk_cell' h.at_ 6
  clear h
  go_enter Tryd.func51, Tryd.ntmps51
  go_wp2
  go_loopw [3] (fun i wr => i = .int .i64 0 ∧ w = wr) (fun _ _ => 0)
  case atStart => exact ⟨rfl, rfl⟩
  case round =>
    obtain ⟨rfl, rfl⟩ := hrel
    go_wp2
    go_ret
    exact ⟨rfl, rfl⟩
set_option maxHeartbeats 1000000 in
theorem fillRange_none (Bk : Nat) (T : Value) (m : Nat) (L : List Held) (w : World) (h : Book Bk T m L w) :
    Calls Tryd.prog 28 #[.pointer (some ⟨Bk, 0, none⟩)] w fun e w' => e = .returned (.tuple #[]) ∧ w = w' := by
  have c0 : w.cell? ⟨Bk, 7, none⟩ = some (.slice none 0 0) := blk_cell' h.at_ 7
  clear h
  go_enter Tryd.func28, Tryd.ntmps28
  go_wp2
  go_loopw [2] (fun i wr => i = .int .i64 0 ∧ w = wr) (fun _ _ => 0)
  case atStart => exact ⟨rfl, rfl⟩
  case round =>
    obtain ⟨rfl, rfl⟩ := hrel
    go_wp2
    go_end0
    exact ⟨rfl, rfl⟩
set_option maxHeartbeats 1000000 in
theorem growRange_none (Bk : Nat) (T : Value) (m : Nat) (L : List Held) (w : World) (h : Book Bk T m L w) :
    Calls Tryd.prog 40 #[.pointer (some ⟨Bk, 0, none⟩)] w fun e w' => e = .returned (.tuple #[]) ∧ w = w' := by
  have c0 : w.cell? ⟨Bk, 7, none⟩ = some (.slice none 0 0) := blk_cell' h.at_ 7
  clear h
  go_enter Tryd.func40, Tryd.ntmps40
  go_wp2
  go_loopw [2] (fun i wr => i = .int .i64 0 ∧ w = wr) (fun _ _ => 0)
  case atStart => exact ⟨rfl, rfl⟩
  case round =>
    obtain ⟨rfl, rfl⟩ := hrel
    go_wp2
    go_end0
    exact ⟨rfl, rfl⟩
set_option maxHeartbeats 1000000 in
theorem lookRange_none (Bk : Nat) (T : Value) (m : Nat) (L : List Held) (w : World) (h : Book Bk T m L w) :
    Calls Tryd.prog 52 #[.pointer (some ⟨Bk, 0, none⟩)] w fun e w' => e = .returned (.bool true) ∧ w = w' := by
  have c0 : w.cell? ⟨Bk, 7, none⟩ = some (.slice none 0 0) := blk_cell' h.at_ 7
  clear h
  go_enter Tryd.func52, Tryd.ntmps52
  go_wp2
  go_loopw [3] (fun i wr => i = .int .i64 0 ∧ w = wr) (fun _ _ => 0)
  case atStart => exact ⟨rfl, rfl⟩
  case round =>
    obtain ⟨rfl, rfl⟩ := hrel
    go_wp2
    go_ret
    exact ⟨rfl, rfl⟩
set_option maxHeartbeats 1000000 in
theorem fillChange_none (Bk : Nat) (T : Value) (m : Nat) (L : List Held) (w : World) (h : Book Bk T m L w) :
    Calls Tryd.prog 29 #[.pointer (some ⟨Bk, 0, none⟩)] w fun e w' => e = .returned (.tuple #[]) ∧ w = w' := by
  have c0 : w.cell? ⟨Bk, 8, none⟩ = some (.slice none 0 0) := blk_cell' h.at_ 8
  clear h
  go_enter Tryd.func29, Tryd.ntmps29
  go_wp2
  go_loopw [2] (fun i wr => i = .int .i64 0 ∧ w = wr) (fun _ _ => 0)
  case atStart => exact ⟨rfl, rfl⟩
  case round =>
    obtain ⟨rfl, rfl⟩ := hrel
    go_wp2
    go_end0
    exact ⟨rfl, rfl⟩
set_option maxHeartbeats 1000000 in
theorem growChange_none (Bk : Nat) (T : Value) (m : Nat) (L : List Held) (w : World) (h : Book Bk T m L w) :
    Calls Tryd.prog 41 #[.pointer (some ⟨Bk, 0, none⟩)] w fun e w' => e = .returned (.tuple #[]) ∧ w = w' := by
  have c0 : w.cell? ⟨Bk, 8, none⟩ = some (.slice none 0 0) := blk_cell' h.at_ 8
  clear h
  go_enter Tryd.func41, Tryd.ntmps41
  go_wp2
  go_loopw [2] (fun i wr => i = .int .i64 0 ∧ w = wr) (fun _ _ => 0)
  case atStart => exact ⟨rfl, rfl⟩
  case round =>
    obtain ⟨rfl, rfl⟩ := hrel
    go_wp2
    go_end0
    exact ⟨rfl, rfl⟩
set_option maxHeartbeats 1000000 in
theorem lookChange_none (Bk : Nat) (T : Value) (m : Nat) (L : List Held) (w : World) (h : Book Bk T m L w) :
    Calls Tryd.prog 53 #[.pointer (some ⟨Bk, 0, none⟩)] w fun e w' => e = .returned (.bool true) ∧ w = w' := by
  have c0 : w.cell? ⟨Bk, 8, none⟩ = some (.slice none 0 0) := blk_cell' h.at_ 8
  clear h
  go_enter Tryd.func53, Tryd.ntmps53
  go_wp2
  go_loopw [3] (fun i wr => i = .int .i64 0 ∧ w = wr) (fun _ _ => 0)
  case atStart => exact ⟨rfl, rfl⟩
  case round =>
    obtain ⟨rfl, rfl⟩ := hrel
    go_wp2
    go_ret
    exact ⟨rfl, rfl⟩
set_option maxHeartbeats 1000000 in
theorem fillEntry_none (Bk : Nat) (T : Value) (m : Nat) (L : List Held) (w : World) (h : Book Bk T m L w) :
    Calls Tryd.prog 30 #[.pointer (some ⟨Bk, 0, none⟩)] w fun e w' => e = .returned (.tuple #[]) ∧ w = w' := by
  have c0 : w.cell? ⟨Bk, 9, none⟩ = some (.slice none 0 0) := blk_cell' h.at_ 9
  clear h
  go_enter Tryd.func30, Tryd.ntmps30
  go_wp2
  go_loopw [2] (fun i wr => i = .int .i64 0 ∧ w = wr) (fun _ _ => 0)
  case atStart => exact ⟨rfl, rfl⟩
  case round =>
    obtain ⟨rfl, rfl⟩ := hrel
    go_wp2
    go_end0
    exact ⟨rfl, rfl⟩
set_option maxHeartbeats 1000000 in
theorem growEntry_none (Bk : Nat) (T : Value) (m : Nat) (L : List Held) (w : World) (h : Book Bk T m L w) :
    Calls Tryd.prog 42 #[.pointer (some ⟨Bk, 0, none⟩)] w fun e w' => e = .returned (.tuple #[]) ∧ w = w' := by
  have c0 : w.cell? ⟨Bk, 9, none⟩ = some (.slice none 0 0) := blk_cell' h.at_ 9
  clear h
  go_enter Tryd.func42, Tryd.ntmps42
  go_wp2
  go_loopw [2] (fun i wr => i = .int .i64 0 ∧ w = wr) (fun _ _ => 0)
  case atStart => exact ⟨rfl, rfl⟩
  case round =>
    obtain ⟨rfl, rfl⟩ := hrel
    go_wp2
    go_end0
    exact ⟨rfl, rfl⟩
set_option maxHeartbeats 1000000 in
theorem lookEntry_none (Bk : Nat) (T : Value) (m : Nat) (L : List Held) (w : World) (h : Book Bk T m L w) :
    Calls Tryd.prog 54 #[.pointer (some ⟨Bk, 0, none⟩)] w fun e w' => e = .returned (.bool true) ∧ w = w' := by
  have c0 : w.cell? ⟨Bk, 9, none⟩ = some (.slice none 0 0) := blk_cell' h.at_ 9
  clear h
  go_enter Tryd.func54, Tryd.ntmps54
  go_wp2
  go_loopw [3] (fun i wr => i = .int .i64 0 ∧ w = wr) (fun _ _ => 0)
  case atStart => exact ⟨rfl, rfl⟩
  case round =>
    obtain ⟨rfl, rfl⟩ := hrel
    go_wp2
    go_ret
    exact ⟨rfl, rfl⟩
set_option maxHeartbeats 1000000 in
theorem fillNode_none (Bk : Nat) (T : Value) (m : Nat) (L : List Held) (w : World) (h : Book Bk T m L w) :
    Calls Tryd.prog 31 #[.pointer (some ⟨Bk, 0, none⟩)] w fun e w' => e = .returned (.tuple #[]) ∧ w = w' := by
  have c0 : w.cell? ⟨Bk, 10, none⟩ = some (.slice none 0 0) := blk_cell' h.at_ 10
  clear h
  go_enter Tryd.func31, Tryd.ntmps31
  go_wp2
  go_loopw [2] (fun i wr => i = .int .i64 0 ∧ w = wr) (fun _ _ => 0)
  case atStart => exact ⟨rfl, rfl⟩
  case round =>
    obtain ⟨rfl, rfl⟩ := hrel
    go_wp2
    go_end0
    exact ⟨rfl, rfl⟩
set_option maxHeartbeats 1000000 in
theorem growNode_none (Bk : Nat) (T : Value) (m : Nat) (L : List Held) (w : World) (h : Book Bk T m L w) :
    Calls Tryd.prog 43 #[.pointer (some ⟨Bk, 0, none⟩)] w fun e w' => e = .returned (.tuple #[]) ∧ w = w' := by
  have c0 : w.cell? ⟨Bk, 10, none⟩ = some (.slice none 0 0) := blk_cell' h.at_ 10
  clear h
  go_enter Tryd.func43, Tryd.ntmps43
  go_wp2
  go_loopw [2] (fun i wr => i = .int .i64 0 ∧ w = wr) (fun _ _ => 0)
  case atStart => exact ⟨rfl, rfl⟩
  case round =>
    obtain ⟨rfl, rfl⟩ := hrel
    go_wp2
    go_end0
    exact ⟨rfl, rfl⟩
set_option maxHeartbeats 1000000 in
theorem lookNode_none (Bk : Nat) (T : Value) (m : Nat) (L : List Held) (w : World) (h : Book Bk T m L w) :
    Calls Tryd.prog 55 #[.pointer (some ⟨Bk, 0, none⟩)] w fun e w' => e = .returned (.bool true) ∧ w = w' := by
  have c0 : w.cell? ⟨Bk, 10, none⟩ = some (.slice none 0 0) := blk_cell' h.at_ 10
  clear h
  go_enter Tryd.func55, Tryd.ntmps55
  go_wp2
  go_loopw [3] (fun i wr => i = .int .i64 0 ∧ w = wr) (fun _ _ => 0)
  case atStart => exact ⟨rfl, rfl⟩
  case round =>
    obtain ⟨rfl, rfl⟩ := hrel
    go_wp2
    go_ret
    exact ⟨rfl, rfl⟩
set_option maxHeartbeats 1000000 in
theorem fillCall_none (Bk : Nat) (T : Value) (m : Nat) (L : List Held) (w : World) (h : Book Bk T m L w) :
    Calls Tryd.prog 32 #[.pointer (some ⟨Bk, 0, none⟩)] w fun e w' => e = .returned (.tuple #[]) ∧ w = w' := by
  have c0 : w.cell? ⟨Bk, 11, none⟩ = some (.slice none 0 0) := blk_cell' h.at_ 11
  clear h
  go_enter Tryd.func32, Tryd.ntmps32
  go_wp2
  go_loopw [2] (fun i wr => i = .int .i64 0 ∧ w = wr) (fun _ _ => 0)
  case atStart => exact ⟨rfl, rfl⟩
  case round =>
    obtain ⟨rfl, rfl⟩ := hrel
    go_wp2
    go_end0
    exact ⟨rfl, rfl⟩
set_option maxHeartbeats 1000000 in
theorem growCall_none (Bk : Nat) (T : Value) (m : Nat) (L : List Held) (w : World) (h : Book Bk T m L w) :
    Calls Tryd.prog 44 #[.pointer (some ⟨Bk, 0, none⟩)] w fun e w' => e = .returned (.tuple #[]) ∧ w = w' := by
  have c0 : w.cell? ⟨Bk, 11, none⟩ = some (.slice none 0 0) := blk_cell' h.at_ 11
  clear h
  go_enter Tryd.func44, Tryd.ntmps44
  go_wp2
  go_loopw [2] (fun i wr => i = .int .i64 0 ∧ w = wr) (fun _ _ => 0)
  case atStart => exact ⟨rfl, rfl⟩
  case round =>
    obtain ⟨rfl, rfl⟩ := hrel
    go_wp2
    go_end0
    exact ⟨rfl, rfl⟩
set_option maxHeartbeats 1000000 in
theorem lookCall_none (Bk : Nat) (T : Value) (m : Nat) (L : List Held) (w : World) (h : Book Bk T m L w) :
    Calls Tryd.prog 56 #[.pointer (some ⟨Bk, 0, none⟩)] w fun e w' => e = .returned (.bool true) ∧ w = w' := by
  have c0 : w.cell? ⟨Bk, 11, none⟩ = some (.slice none 0 0) := blk_cell' h.at_ 11
  clear h
  go_enter Tryd.func56, Tryd.ntmps56
  go_wp2
  go_loopw [3] (fun i wr => i = .int .i64 0 ∧ w = wr) (fun _ _ => 0)
  case atStart => exact ⟨rfl, rfl⟩
  case round =>
    obtain ⟨rfl, rfl⟩ := hrel
    go_wp2
    go_ret
    exact ⟨rfl, rfl⟩
set_option maxHeartbeats 1000000 in
theorem fillStep_none (Bk : Nat) (T : Value) (m : Nat) (L : List Held) (w : World) (h : Book Bk T m L w) :
    Calls Tryd.prog 33 #[.pointer (some ⟨Bk, 0, none⟩)] w fun e w' => e = .returned (.tuple #[]) ∧ w = w' := by
  have c0 : w.cell? ⟨Bk, 12, none⟩ = some (.slice none 0 0) := blk_cell' h.at_ 12
  clear h
  go_enter Tryd.func33, Tryd.ntmps33
  go_wp2
  go_loopw [2] (fun i wr => i = .int .i64 0 ∧ w = wr) (fun _ _ => 0)
  case atStart => exact ⟨rfl, rfl⟩
  case round =>
    obtain ⟨rfl, rfl⟩ := hrel
    go_wp2
    go_end0
    exact ⟨rfl, rfl⟩
set_option maxHeartbeats 1000000 in
theorem growStep_none (Bk : Nat) (T : Value) (m : Nat) (L : List Held) (w : World) (h : Book Bk T m L w) :
    Calls Tryd.prog 45 #[.pointer (some ⟨Bk, 0, none⟩)] w fun e w' => e = .returned (.tuple #[]) ∧ w = w' := by
  have c0 : w.cell? ⟨Bk, 12, none⟩ = some (.slice none 0 0) := blk_cell' h.at_ 12
  clear h
  go_enter Tryd.func45, Tryd.ntmps45
  go_wp2
  go_loopw [2] (fun i wr => i = .int .i64 0 ∧ w = wr) (fun _ _ => 0)
  case atStart => exact ⟨rfl, rfl⟩
  case round =>
    obtain ⟨rfl, rfl⟩ := hrel
    go_wp2
    go_end0
    exact ⟨rfl, rfl⟩
set_option maxHeartbeats 1000000 in
theorem lookStep_none (Bk : Nat) (T : Value) (m : Nat) (L : List Held) (w : World) (h : Book Bk T m L w) :
    Calls Tryd.prog 57 #[.pointer (some ⟨Bk, 0, none⟩)] w fun e w' => e = .returned (.bool true) ∧ w = w' := by
  have c0 : w.cell? ⟨Bk, 12, none⟩ = some (.slice none 0 0) := blk_cell' h.at_ 12
  clear h
  go_enter Tryd.func57, Tryd.ntmps57
  go_wp2
  go_loopw [3] (fun i wr => i = .int .i64 0 ∧ w = wr) (fun _ _ => 0)
  case atStart => exact ⟨rfl, rfl⟩
  case round =>
    obtain ⟨rfl, rfl⟩ := hrel
    go_wp2
    go_ret
    exact ⟨rfl, rfl⟩
/-- Lists of texts, each in a block of its own below the book's: the book finds them apart. -/
structure Ready (B0 Bk m : Nat) (T : Value) (L : List Held) (X : Nat → List ByteArray) (w : World) : Prop where
  book : Book Bk T m L w
  few : L.length ≤ 1000
  apart : ApartL Bk L
  rows : RowsL B0 L X w
  base : B0 ≤ Bk
  short : ∀ j, j < L.length → (X j).length ≤ 8796093022000
theorem grow_ready {B0 Bk m : Nat} {T : Value} {L L' : List Held} {X : Nat → List ByteArray} {w w1 W : World} (h : Ready B0 Bk m T L X w) (hg : GrowInv B0 Bk m T L (marksTo L X L.length) w1 L.length L' W) : ∀ i, i < L'.length → LookOK B0 (L'.getD i zH) W := by
  intro i hi
  have hi' : i < L.length := by rw [← hg.len]; exact hi
  obtain ⟨s1, s2⟩ := hg.same i hi'
  have e : marksTo L X L.length i = List.replicate (X i).length (markS (L.getD i zH).n) := by unfold marksTo; rw [if_pos hi']
  have hr := hg.rows i hi'
  have hl := (hg.longs i hi').1
  rw [e, List.length_replicate] at hr hl
  refine ⟨(X i).length, h.short i hi', by rw [s2]; exact h.apart.num i hi', by rw [s1, s2]; exact hr, ?_⟩
  rw [s2, ← List.replicate_append_replicate]
  exact hl
set_option maxHeartbeats 4000000 in
set_option maxRecDepth 100000 in
theorem apart_calls (B0 Bk m : Nat) (T : Value) (L : List Held) (X : Nat → List ByteArray) (w : World) (h : Ready B0 Bk m T L X w) :
    Calls Tryd.prog 15 #[.pointer (some ⟨Bk, 0, none⟩)] w fun e w' => e = .returned (.bool true) ∧ Below B0 w w' := by
  have HB := Lib.hid h.book
  have H := Lib.hid h
  clear h
  go_enter Tryd.func15, Tryd.ntmps15
  go_wp2_with (first | (go_at_call 22; with_reducible refine (fillByte_none Bk T m L _ HB.out).mono ?_; rintro e w' ⟨rfl, rfl⟩) | (go_at_call 23; with_reducible refine (fillInt_none Bk T m L _ HB.out).mono ?_; rintro e w' ⟨rfl, rfl⟩) | (go_at_call 24; with_reducible refine (fillText_calls B0 Bk T m L X _ HB.out H.out.few H.out.apart H.out.rows H.out.base).mono ?_))
  rintro e w1 ⟨rfl, hB1, hR1, hb1⟩
  have HB1 := Lib.hid hB1
  have HR1 := Lib.hid hR1
  have Hb1 := Lib.hid hb1
  clear hB1 hR1 hb1
  go_wp2_with (first | (go_at_call 25; with_reducible refine (fillBlob_none Bk T m L _ HB1.out).mono ?_; rintro e w' ⟨rfl, rfl⟩) | (go_at_call 26; with_reducible refine (fillRow_none Bk T m L _ HB1.out).mono ?_; rintro e w' ⟨rfl, rfl⟩) | (go_at_call 27; with_reducible refine (fillFlag_none Bk T m L _ HB1.out).mono ?_; rintro e w' ⟨rfl, rfl⟩) | (go_at_call 28; with_reducible refine (fillRange_none Bk T m L _ HB1.out).mono ?_; rintro e w' ⟨rfl, rfl⟩) | (go_at_call 29; with_reducible refine (fillChange_none Bk T m L _ HB1.out).mono ?_; rintro e w' ⟨rfl, rfl⟩) | (go_at_call 30; with_reducible refine (fillEntry_none Bk T m L _ HB1.out).mono ?_; rintro e w' ⟨rfl, rfl⟩) | (go_at_call 31; with_reducible refine (fillNode_none Bk T m L _ HB1.out).mono ?_; rintro e w' ⟨rfl, rfl⟩) | (go_at_call 32; with_reducible refine (fillCall_none Bk T m L _ HB1.out).mono ?_; rintro e w' ⟨rfl, rfl⟩) | (go_at_call 33; with_reducible refine (fillStep_none Bk T m L _ HB1.out).mono ?_; rintro e w' ⟨rfl, rfl⟩) | (go_at_call 34; with_reducible refine (growByte_none Bk T m L _ HB1.out).mono ?_; rintro e w' ⟨rfl, rfl⟩) | (go_at_call 35; with_reducible refine (growInt_none Bk T m L _ HB1.out).mono ?_; rintro e w' ⟨rfl, rfl⟩) | (go_at_call 36; with_reducible refine (growText_calls B0 Bk T m L (marksTo L X L.length) (fun j hj => by rw [marks_len]; exact H.out.short j hj) _ HB1.out H.out.few H.out.apart HR1.out H.out.base).mono ?_))
  rintro e w2 ⟨rfl, L', hG⟩
  have HG := Lib.hid hG
  have HB2 := Lib.hid hG.book
  have HLOW := Lib.hid (Hb1.out.trans hG.low)
  have HL2 := Lib.hid (show L'.length ≤ 1000 by rw [hG.len]; exact H.out.few)
  have HK := Lib.hid (grow_ready H.out hG)
  clear hG
  go_wp2_with (first | (go_at_call 37; with_reducible refine (growBlob_none Bk T m L' _ HB2.out).mono ?_; rintro e w' ⟨rfl, rfl⟩) | (go_at_call 38; with_reducible refine (growRow_none Bk T m L' _ HB2.out).mono ?_; rintro e w' ⟨rfl, rfl⟩) | (go_at_call 39; with_reducible refine (growFlag_none Bk T m L' _ HB2.out).mono ?_; rintro e w' ⟨rfl, rfl⟩) | (go_at_call 40; with_reducible refine (growRange_none Bk T m L' _ HB2.out).mono ?_; rintro e w' ⟨rfl, rfl⟩) | (go_at_call 41; with_reducible refine (growChange_none Bk T m L' _ HB2.out).mono ?_; rintro e w' ⟨rfl, rfl⟩) | (go_at_call 42; with_reducible refine (growEntry_none Bk T m L' _ HB2.out).mono ?_; rintro e w' ⟨rfl, rfl⟩) | (go_at_call 43; with_reducible refine (growNode_none Bk T m L' _ HB2.out).mono ?_; rintro e w' ⟨rfl, rfl⟩) | (go_at_call 44; with_reducible refine (growCall_none Bk T m L' _ HB2.out).mono ?_; rintro e w' ⟨rfl, rfl⟩) | (go_at_call 45; with_reducible refine (growStep_none Bk T m L' _ HB2.out).mono ?_; rintro e w' ⟨rfl, rfl⟩) | (go_at_call 46; with_reducible refine (lookByte_none Bk T m L' _ HB2.out).mono ?_; rintro e w' ⟨rfl, rfl⟩) | (go_at_call 47; with_reducible refine (lookInt_none Bk T m L' _ HB2.out).mono ?_; rintro e w' ⟨rfl, rfl⟩) | (go_at_call 48; with_reducible refine (lookText_calls B0 Bk T m L' _ HB2.out HL2.out HK.out).mono ?_))
  rintro e w3 ⟨rfl, hb3⟩
  have HB3 := Lib.hid (book_below HB2.out hb3)
  have Hb3 := Lib.hid hb3
  clear hb3
  go_wp2_with (first | (go_at_call 49; with_reducible refine (lookBlob_none Bk T m L' _ HB3.out).mono ?_; rintro e w' ⟨rfl, rfl⟩) | (go_at_call 50; with_reducible refine (lookRow_none Bk T m L' _ HB3.out).mono ?_; rintro e w' ⟨rfl, rfl⟩) | (go_at_call 51; with_reducible refine (lookFlag_none Bk T m L' _ HB3.out).mono ?_; rintro e w' ⟨rfl, rfl⟩) | (go_at_call 52; with_reducible refine (lookRange_none Bk T m L' _ HB3.out).mono ?_; rintro e w' ⟨rfl, rfl⟩) | (go_at_call 53; with_reducible refine (lookChange_none Bk T m L' _ HB3.out).mono ?_; rintro e w' ⟨rfl, rfl⟩) | (go_at_call 54; with_reducible refine (lookEntry_none Bk T m L' _ HB3.out).mono ?_; rintro e w' ⟨rfl, rfl⟩) | (go_at_call 55; with_reducible refine (lookNode_none Bk T m L' _ HB3.out).mono ?_; rintro e w' ⟨rfl, rfl⟩) | (go_at_call 56; with_reducible refine (lookCall_none Bk T m L' _ HB3.out).mono ?_; rintro e w' ⟨rfl, rfl⟩) | (go_at_call 57; with_reducible refine (lookStep_none Bk T m L' _ HB3.out).mono ?_; rintro e w' ⟨rfl, rfl⟩))
  go_ret
  exact ⟨rfl, HLOW.out.trans (Hb3.out.mono (Nat.le_trans H.out.base (Nat.le_of_lt (blk_lt HB2.out.at_))))⟩
/-- A value's row lies among the blocks from a on, below b. -/
def InIv (v : Value) (a b : Nat) : Prop := ∀ k, v.ownBlock = some k → a ≤ k ∧ k < b
theorem iv_of {w : World} {base e n : Nat} {v : Value} {xs : List Value} (h : w.ownsRow base e 1 v n xs) : InIv v base w.heap.size := fun k hk => ⟨own_base h k hk, own_lt h k hk⟩
theorem iv_ne {v u : Value} {a b c d : Nat} (h : InIv v a b) (k : InIv u c d) (hbc : b ≤ c) : (v.ownBlock = none ∨ v.ownBlock ≠ u.ownBlock) ∧ (u.ownBlock = none ∨ u.ownBlock ≠ v.ownBlock) := by
  cases hv : v.ownBlock with
  | none => exact ⟨.inl rfl, by cases hu : u.ownBlock <;> simp⟩
  | some x =>
    cases hu : u.ownBlock with
    | none => exact ⟨.inr (by simp), .inl rfl⟩
    | some y =>
      have h1 := h x hv
      have h2 := k y hu
      exact ⟨.inr (by simp; omega), .inr (by simp; omega)⟩
theorem ready_of {B0 Bk m : Nat} {T : Value} {L : List Held} {w : World} (X : Nat → List ByteArray) (lo hi : Nat → Nat) (hB : Book Bk T m L w) (hlen : L.length ≤ 90) (hbase : B0 ≤ Bk)
    (h : ∀ i, i < L.length → w.ownsRow B0 9 1 (L.getD i zH).v (X i).length (strs (X i)) ∧ InIv (L.getD i zH).v (lo i) (hi i) ∧ hi i ≤ Bk ∧ (L.getD i zH).n < 100 ∧ (L.getD i zH).long = .slice none 0 0 ∧ (X i).length ≤ 8796093022000)
    (ho : ∀ i j, i < j → j < L.length → hi i ≤ lo j) : Ready B0 Bk m T L X w := by
  refine ⟨hB, by omega, ⟨fun i hi' b hb => ?_, fun i j hi' hj hne => ?_, fun i hi' => (h i hi').2.2.2.1, fun i hi' => ⟨_, _, _, (h i hi').2.2.2.2.1⟩⟩, fun i hi' => (h i hi').1, hbase, fun i hi' => (h i hi').2.2.2.2.2⟩
  · have := ((h i hi').2.1 b hb).2
    have := (h i hi').2.2.1
    omega
  · rcases Nat.lt_or_ge i j with hlt | hge
    · exact (iv_ne (h i hi').2.1 (h j hj).2.1 (ho i j hlt hj)).1
    · exact (iv_ne (h j hj).2.1 (h i hi').2.1 (ho j i (by omega) hi')).2
theorem book_new (w : World) : Book w.heap.size (.slice none 0 0) 0 [] (w.alloc (.cells #[.int .i64 0, .slice none 0 0, .slice none 0 0, .slice none 0 0, .slice none 0 0, .slice none 0 0, .slice none 0 0, .slice none 0 0, .slice none 0 0, .slice none 0 0, .slice none 0 0, .slice none 0 0, .slice none 0 0] 50)) :=
  ⟨World.alloc_heap_new w _, World.ownsRow_nil _ _ _ _⟩
end Go.Proofs.YtiibaggpaabfcaaDoor.H
