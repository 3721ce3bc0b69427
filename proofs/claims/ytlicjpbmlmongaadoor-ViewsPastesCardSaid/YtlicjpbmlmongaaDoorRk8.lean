/- The book with lists of lists: Apart tells true. -/
import Derived.Test.YtlicjpbmlmongaaDoorRk7
set_option linter.unusedVariables false
set_option linter.unusedSimpArgs false
namespace Go.Proofs.YtlicjpbmlmongaaDoor.H
open Go.RowKit Go.Proofs.YtlicjpbmlmongaaDoorW.PrintWords Go.Proofs

set_option maxHeartbeats 1000000 in
theorem fillByte_noneR (Bk : Nat) (T TR : Value) (m : Nat) (L LR : List Held) (w : World) (h : BookR Bk T TR m L LR w) :
    Calls Tryd.prog 19 #[.pointer (some ⟨Bk, 0, none⟩)] w fun e w' => e = .returned (.tuple #[]) ∧ w = w' := by
  have c0 : w.cell? ⟨Bk, 1, none⟩ = some (.slice none 0 0) := blk_cell' h.at_ 1
  clear h
  go_enter Tryd.func19, Tryd.ntmps19
  go_wp2
  go_loopw [2] (fun i wr => i = .int .i64 0 ∧ w = wr) (fun _ _ => 0)
  case atStart => exact ⟨rfl, rfl⟩
  case round =>
    obtain ⟨rfl, rfl⟩ := hrel
    go_wp2
    go_end0
    exact ⟨rfl, rfl⟩
set_option maxHeartbeats 1000000 in
theorem growByte_noneR (Bk : Nat) (T TR : Value) (m : Nat) (L LR : List Held) (w : World) (h : BookR Bk T TR m L LR w) :
    Calls Tryd.prog 31 #[.pointer (some ⟨Bk, 0, none⟩)] w fun e w' => e = .returned (.tuple #[]) ∧ w = w' := by
  have c0 : w.cell? ⟨Bk, 1, none⟩ = some (.slice none 0 0) := blk_cell' h.at_ 1
  clear h
  go_enter Tryd.func31, Tryd.ntmps31
  go_wp2
  go_loopw [2] (fun i wr => i = .int .i64 0 ∧ w = wr) (fun _ _ => 0)
  case atStart => exact ⟨rfl, rfl⟩
  case round =>
    obtain ⟨rfl, rfl⟩ := hrel
    go_wp2
    go_end0
    exact ⟨rfl, rfl⟩
set_option maxHeartbeats 1000000 in
theorem lookByte_noneR (Bk : Nat) (T TR : Value) (m : Nat) (L LR : List Held) (w : World) (h : BookR Bk T TR m L LR w) :
    Calls Tryd.prog 43 #[.pointer (some ⟨Bk, 0, none⟩)] w fun e w' => e = .returned (.bool true) ∧ w = w' := by
  have c0 : w.cell? ⟨Bk, 1, none⟩ = some (.slice none 0 0) := blk_cell' h.at_ 1
  clear h
  go_enter Tryd.func43, Tryd.ntmps43
  go_wp2
  go_loopw [3] (fun i wr => i = .int .i64 0 ∧ w = wr) (fun _ _ => 0)
  case atStart => exact ⟨rfl, rfl⟩
  case round =>
    obtain ⟨rfl, rfl⟩ := hrel
    go_wp2
    go_ret
    exact ⟨rfl, rfl⟩
set_option maxHeartbeats 1000000 in
theorem fillInt_noneR (Bk : Nat) (T TR : Value) (m : Nat) (L LR : List Held) (w : World) (h : BookR Bk T TR m L LR w) :
    Calls Tryd.prog 20 #[.pointer (some ⟨Bk, 0, none⟩)] w fun e w' => e = .returned (.tuple #[]) ∧ w = w' := by
  have c0 : w.cell? ⟨Bk, 2, none⟩ = some (.slice none 0 0) := blk_cell' h.at_ 2
  clear h
  go_enter Tryd.func20, Tryd.ntmps20
  go_wp2
  go_loopw [2] (fun i wr => i = .int .i64 0 ∧ w = wr) (fun _ _ => 0)
  case atStart => exact ⟨rfl, rfl⟩
  case round =>
    obtain ⟨rfl, rfl⟩ := hrel
    go_wp2
    go_end0
    exact ⟨rfl, rfl⟩
set_option maxHeartbeats 1000000 in
theorem growInt_noneR (Bk : Nat) (T TR : Value) (m : Nat) (L LR : List Held) (w : World) (h : BookR Bk T TR m L LR w) :
    Calls Tryd.prog 32 #[.pointer (some ⟨Bk, 0, none⟩)] w fun e w' => e = .returned (.tuple #[]) ∧ w = w' := by
  have c0 : w.cell? ⟨Bk, 2, none⟩ = some (.slice none 0 0) := blk_cell' h.at_ 2
  clear h
  go_enter Tryd.func32, Tryd.ntmps32
  go_wp2
  go_loopw [2] (fun i wr => i = .int .i64 0 ∧ w = wr) (fun _ _ => 0)
  case atStart => exact ⟨rfl, rfl⟩
  case round =>
    obtain ⟨rfl, rfl⟩ := hrel
    go_wp2
    go_end0
    exact ⟨rfl, rfl⟩
set_option maxHeartbeats 1000000 in
theorem lookInt_noneR (Bk : Nat) (T TR : Value) (m : Nat) (L LR : List Held) (w : World) (h : BookR Bk T TR m L LR w) :
    Calls Tryd.prog 44 #[.pointer (some ⟨Bk, 0, none⟩)] w fun e w' => e = .returned (.bool true) ∧ w = w' := by
  have c0 : w.cell? ⟨Bk, 2, none⟩ = some (.slice none 0 0) := blk_cell' h.at_ 2
  clear h
  go_enter Tryd.func44, Tryd.ntmps44
  go_wp2
  go_loopw [3] (fun i wr => i = .int .i64 0 ∧ w = wr) (fun _ _ => 0)
  case atStart => exact ⟨rfl, rfl⟩
  case round =>
    obtain ⟨rfl, rfl⟩ := hrel
    go_wp2
    go_ret
    exact ⟨rfl, rfl⟩
set_option maxHeartbeats 1000000 in
theorem fillBlob_noneR (Bk : Nat) (T TR : Value) (m : Nat) (L LR : List Held) (w : World) (h : BookR Bk T TR m L LR w) :
    Calls Tryd.prog 22 #[.pointer (some ⟨Bk, 0, none⟩)] w fun e w' => e = .returned (.tuple #[]) ∧ w = w' := by
  have c0 : w.cell? ⟨Bk, 4, none⟩ = some (.slice none 0 0) := blk_cell' h.at_ 4
  clear h
  go_enter Tryd.func22, Tryd.ntmps22
  go_wp2
  go_loopw [2] (fun i wr => i = .int .i64 0 ∧ w = wr) (fun _ _ => 0)
  case atStart => exact ⟨rfl, rfl⟩
  case round =>
    obtain ⟨rfl, rfl⟩ := hrel
    go_wp2
    go_end0
    exact ⟨rfl, rfl⟩
set_option maxHeartbeats 1000000 in
theorem growBlob_noneR (Bk : Nat) (T TR : Value) (m : Nat) (L LR : List Held) (w : World) (h : BookR Bk T TR m L LR w) :
    Calls Tryd.prog 34 #[.pointer (some ⟨Bk, 0, none⟩)] w fun e w' => e = .returned (.tuple #[]) ∧ w = w' := by
  have c0 : w.cell? ⟨Bk, 4, none⟩ = some (.slice none 0 0) := blk_cell' h.at_ 4
  clear h
  go_enter Tryd.func34, Tryd.ntmps34
  go_wp2
  go_loopw [2] (fun i wr => i = .int .i64 0 ∧ w = wr) (fun _ _ => 0)
  case atStart => exact ⟨rfl, rfl⟩
  case round =>
    obtain ⟨rfl, rfl⟩ := hrel
    go_wp2
    go_end0
    exact ⟨rfl, rfl⟩
set_option maxHeartbeats 1000000 in
theorem lookBlob_noneR (Bk : Nat) (T TR : Value) (m : Nat) (L LR : List Held) (w : World) (h : BookR Bk T TR m L LR w) :
    Calls Tryd.prog 46 #[.pointer (some ⟨Bk, 0, none⟩)] w fun e w' => e = .returned (.bool true) ∧ w = w' := by
  have c0 : w.cell? ⟨Bk, 4, none⟩ = some (.slice none 0 0) := blk_cell' h.at_ 4
  clear h
  go_enter Tryd.func46, Tryd.ntmps46
  go_wp2
  go_loopw [3] (fun i wr => i = .int .i64 0 ∧ w = wr) (fun _ _ => 0)
  case atStart => exact ⟨rfl, rfl⟩
  case round =>
    obtain ⟨rfl, rfl⟩ := hrel
    go_wp2
    go_ret
    exact ⟨rfl, rfl⟩
set_option maxHeartbeats 1000000 in
theorem fillFlag_noneR (Bk : Nat) (T TR : Value) (m : Nat) (L LR : List Held) (w : World) (h : BookR Bk T TR m L LR w) :
    Calls Tryd.prog 24 #[.pointer (some ⟨Bk, 0, none⟩)] w fun e w' => e = .returned (.tuple #[]) ∧ w = w' := by
  have c0 : w.cell? ⟨Bk, 6, none⟩ = some (.slice none 0 0) := blk_cell' h.at_ 6
  clear h
  go_enter Tryd.func24, Tryd.ntmps24
  go_wp2
  go_loopw [2] (fun i wr => i = .int .i64 0 ∧ w = wr) (fun _ _ => 0)
  case atStart => exact ⟨rfl, rfl⟩
  case round =>
    obtain ⟨rfl, rfl⟩ := hrel
    go_wp2
    go_end0
    exact ⟨rfl, rfl⟩
set_option maxHeartbeats 1000000 in
theorem growFlag_noneR (Bk : Nat) (T TR : Value) (m : Nat) (L LR : List Held) (w : World) (h : BookR Bk T TR m L LR w) :
    Calls Tryd.prog 36 #[.pointer (some ⟨Bk, 0, none⟩)] w fun e w' => e = .returned (.tuple #[]) ∧ w = w' := by
  have c0 : w.cell? ⟨Bk, 6, none⟩ = some (.slice none 0 0) := blk_cell' h.at_ 6
  clear h
  go_enter Tryd.func36, Tryd.ntmps36
  go_wp2
  go_loopw [2] (fun i wr => i = .int .i64 0 ∧ w = wr) (fun _ _ => 0)
  case atStart => exact ⟨rfl, rfl⟩
  case round =>
    obtain ⟨rfl, rfl⟩ := hrel
    go_wp2
    go_end0
    exact ⟨rfl, rfl⟩
set_option maxHeartbeats 1000000 in
theorem lookFlag_noneR (Bk : Nat) (T TR : Value) (m : Nat) (L LR : List Held) (w : World) (h : BookR Bk T TR m L LR w) :
    Calls Tryd.prog 48 #[.pointer (some ⟨Bk, 0, none⟩)] w fun e w' => e = .returned (.bool true) ∧ w = w' := by
  have c0 : w.cell? ⟨Bk, 6, none⟩ = some (.slice none 0 0) := blk_cell' h.at_ 6
  clear h
  go_enter Tryd.func48, Tryd.ntmps48
  go_wp2
  go_loopw [3] (fun i wr => i = .int .i64 0 ∧ w = wr) (fun _ _ => 0)
  case atStart => exact ⟨rfl, rfl⟩
  case round =>
    obtain ⟨rfl, rfl⟩ := hrel
    go_wp2
    go_ret
    exact ⟨rfl, rfl⟩
set_option maxHeartbeats 1000000 in
theorem fillRange_noneR (Bk : Nat) (T TR : Value) (m : Nat) (L LR : List Held) (w : World) (h : BookR Bk T TR m L LR w) :
    Calls Tryd.prog 25 #[.pointer (some ⟨Bk, 0, none⟩)] w fun e w' => e = .returned (.tuple #[]) ∧ w = w' := by
  have c0 : w.cell? ⟨Bk, 7, none⟩ = some (.slice none 0 0) := blk_cell' h.at_ 7
  clear h
  go_enter Tryd.func25, Tryd.ntmps25
  go_wp2
  go_loopw [2] (fun i wr => i = .int .i64 0 ∧ w = wr) (fun _ _ => 0)
  case atStart => exact ⟨rfl, rfl⟩
  case round =>
    obtain ⟨rfl, rfl⟩ := hrel
    go_wp2
    go_end0
    exact ⟨rfl, rfl⟩
set_option maxHeartbeats 1000000 in
theorem growRange_noneR (Bk : Nat) (T TR : Value) (m : Nat) (L LR : List Held) (w : World) (h : BookR Bk T TR m L LR w) :
    Calls Tryd.prog 37 #[.pointer (some ⟨Bk, 0, none⟩)] w fun e w' => e = .returned (.tuple #[]) ∧ w = w' := by
  have c0 : w.cell? ⟨Bk, 7, none⟩ = some (.slice none 0 0) := blk_cell' h.at_ 7
  clear h
  go_enter Tryd.func37, Tryd.ntmps37
  go_wp2
  go_loopw [2] (fun i wr => i = .int .i64 0 ∧ w = wr) (fun _ _ => 0)
  case atStart => exact ⟨rfl, rfl⟩
  case round =>
    obtain ⟨rfl, rfl⟩ := hrel
    go_wp2
    go_end0
    exact ⟨rfl, rfl⟩
set_option maxHeartbeats 1000000 in
theorem lookRange_noneR (Bk : Nat) (T TR : Value) (m : Nat) (L LR : List Held) (w : World) (h : BookR Bk T TR m L LR w) :
    Calls Tryd.prog 49 #[.pointer (some ⟨Bk, 0, none⟩)] w fun e w' => e = .returned (.bool true) ∧ w = w' := by
  have c0 : w.cell? ⟨Bk, 7, none⟩ = some (.slice none 0 0) := blk_cell' h.at_ 7
  clear h
  go_enter Tryd.func49, Tryd.ntmps49
  go_wp2
  go_loopw [3] (fun i wr => i = .int .i64 0 ∧ w = wr) (fun _ _ => 0)
  case atStart => exact ⟨rfl, rfl⟩
  case round =>
    obtain ⟨rfl, rfl⟩ := hrel
    go_wp2
    go_ret
    exact ⟨rfl, rfl⟩
set_option maxHeartbeats 1000000 in
theorem fillChange_noneR (Bk : Nat) (T TR : Value) (m : Nat) (L LR : List Held) (w : World) (h : BookR Bk T TR m L LR w) :
    Calls Tryd.prog 26 #[.pointer (some ⟨Bk, 0, none⟩)] w fun e w' => e = .returned (.tuple #[]) ∧ w = w' := by
  have c0 : w.cell? ⟨Bk, 8, none⟩ = some (.slice none 0 0) := blk_cell' h.at_ 8
  clear h
  go_enter Tryd.func26, Tryd.ntmps26
  go_wp2
  go_loopw [2] (fun i wr => i = .int .i64 0 ∧ w = wr) (fun _ _ => 0)
  case atStart => exact ⟨rfl, rfl⟩
  case round =>
    obtain ⟨rfl, rfl⟩ := hrel
    go_wp2
    go_end0
    exact ⟨rfl, rfl⟩
set_option maxHeartbeats 1000000 in
theorem growChange_noneR (Bk : Nat) (T TR : Value) (m : Nat) (L LR : List Held) (w : World) (h : BookR Bk T TR m L LR w) :
    Calls Tryd.prog 38 #[.pointer (some ⟨Bk, 0, none⟩)] w fun e w' => e = .returned (.tuple #[]) ∧ w = w' := by
  have c0 : w.cell? ⟨Bk, 8, none⟩ = some (.slice none 0 0) := blk_cell' h.at_ 8
  clear h
  go_enter Tryd.func38, Tryd.ntmps38
  go_wp2
  go_loopw [2] (fun i wr => i = .int .i64 0 ∧ w = wr) (fun _ _ => 0)
  case atStart => exact ⟨rfl, rfl⟩
  case round =>
    obtain ⟨rfl, rfl⟩ := hrel
    go_wp2
    go_end0
    exact ⟨rfl, rfl⟩
set_option maxHeartbeats 1000000 in
theorem lookChange_noneR (Bk : Nat) (T TR : Value) (m : Nat) (L LR : List Held) (w : World) (h : BookR Bk T TR m L LR w) :
    Calls Tryd.prog 50 #[.pointer (some ⟨Bk, 0, none⟩)] w fun e w' => e = .returned (.bool true) ∧ w = w' := by
  have c0 : w.cell? ⟨Bk, 8, none⟩ = some (.slice none 0 0) := blk_cell' h.at_ 8
  clear h
  go_enter Tryd.func50, Tryd.ntmps50
  go_wp2
  go_loopw [3] (fun i wr => i = .int .i64 0 ∧ w = wr) (fun _ _ => 0)
  case atStart => exact ⟨rfl, rfl⟩
  case round =>
    obtain ⟨rfl, rfl⟩ := hrel
    go_wp2
    go_ret
    exact ⟨rfl, rfl⟩
set_option maxHeartbeats 1000000 in
theorem fillEntry_noneR (Bk : Nat) (T TR : Value) (m : Nat) (L LR : List Held) (w : World) (h : BookR Bk T TR m L LR w) :
    Calls Tryd.prog 27 #[.pointer (some ⟨Bk, 0, none⟩)] w fun e w' => e = .returned (.tuple #[]) ∧ w = w' := by
  have c0 : w.cell? ⟨Bk, 9, none⟩ = some (.slice none 0 0) := blk_cell' h.at_ 9
  clear h
  go_enter Tryd.func27, Tryd.ntmps27
  go_wp2
  go_loopw [2] (fun i wr => i = .int .i64 0 ∧ w = wr) (fun _ _ => 0)
  case atStart => exact ⟨rfl, rfl⟩
  case round =>
    obtain ⟨rfl, rfl⟩ := hrel
    go_wp2
    go_end0
    exact ⟨rfl, rfl⟩
set_option maxHeartbeats 1000000 in
theorem growEntry_noneR (Bk : Nat) (T TR : Value) (m : Nat) (L LR : List Held) (w : World) (h : BookR Bk T TR m L LR w) :
    Calls Tryd.prog 39 #[.pointer (some ⟨Bk, 0, none⟩)] w fun e w' => e = .returned (.tuple #[]) ∧ w = w' := by
  have c0 : w.cell? ⟨Bk, 9, none⟩ = some (.slice none 0 0) := blk_cell' h.at_ 9
  clear h
  go_enter Tryd.func39, Tryd.ntmps39
  go_wp2
  go_loopw [2] (fun i wr => i = .int .i64 0 ∧ w = wr) (fun _ _ => 0)
  case atStart => exact ⟨rfl, rfl⟩
  case round =>
    obtain ⟨rfl, rfl⟩ := hrel
    go_wp2
    go_end0
    exact ⟨rfl, rfl⟩
set_option maxHeartbeats 1000000 in
theorem lookEntry_noneR (Bk : Nat) (T TR : Value) (m : Nat) (L LR : List Held) (w : World) (h : BookR Bk T TR m L LR w) :
    Calls Tryd.prog 51 #[.pointer (some ⟨Bk, 0, none⟩)] w fun e w' => e = .returned (.bool true) ∧ w = w' := by
  have c0 : w.cell? ⟨Bk, 9, none⟩ = some (.slice none 0 0) := blk_cell' h.at_ 9
  clear h
  go_enter Tryd.func51, Tryd.ntmps51
  go_wp2
  go_loopw [3] (fun i wr => i = .int .i64 0 ∧ w = wr) (fun _ _ => 0)
  case atStart => exact ⟨rfl, rfl⟩
  case round =>
    obtain ⟨rfl, rfl⟩ := hrel
    go_wp2
    go_ret
    exact ⟨rfl, rfl⟩
set_option maxHeartbeats 1000000 in
theorem fillNode_noneR (Bk : Nat) (T TR : Value) (m : Nat) (L LR : List Held) (w : World) (h : BookR Bk T TR m L LR w) :
    Calls Tryd.prog 28 #[.pointer (some ⟨Bk, 0, none⟩)] w fun e w' => e = .returned (.tuple #[]) ∧ w = w' := by
  have c0 : w.cell? ⟨Bk, 10, none⟩ = some (.slice none 0 0) := blk_cell' h.at_ 10
  clear h
  go_enter Tryd.func28, Tryd.ntmps28
  go_wp2
  go_loopw [2] (fun i wr => i = .int .i64 0 ∧ w = wr) (fun _ _ => 0)
  case atStart => exact ⟨rfl, rfl⟩
  case round =>
    obtain ⟨rfl, rfl⟩ := hrel
    go_wp2
    go_end0
    exact ⟨rfl, rfl⟩
set_option maxHeartbeats 1000000 in
theorem growNode_noneR (Bk : Nat) (T TR : Value) (m : Nat) (L LR : List Held) (w : World) (h : BookR Bk T TR m L LR w) :
    Calls Tryd.prog 40 #[.pointer (some ⟨Bk, 0, none⟩)] w fun e w' => e = .returned (.tuple #[]) ∧ w = w' := by
  have c0 : w.cell? ⟨Bk, 10, none⟩ = some (.slice none 0 0) := blk_cell' h.at_ 10
  clear h
  go_enter Tryd.func40, Tryd.ntmps40
  go_wp2
  go_loopw [2] (fun i wr => i = .int .i64 0 ∧ w = wr) (fun _ _ => 0)
  case atStart => exact ⟨rfl, rfl⟩
  case round =>
    obtain ⟨rfl, rfl⟩ := hrel
    go_wp2
    go_end0
    exact ⟨rfl, rfl⟩
set_option maxHeartbeats 1000000 in
theorem lookNode_noneR (Bk : Nat) (T TR : Value) (m : Nat) (L LR : List Held) (w : World) (h : BookR Bk T TR m L LR w) :
    Calls Tryd.prog 52 #[.pointer (some ⟨Bk, 0, none⟩)] w fun e w' => e = .returned (.bool true) ∧ w = w' := by
  have c0 : w.cell? ⟨Bk, 10, none⟩ = some (.slice none 0 0) := blk_cell' h.at_ 10
  clear h
  go_enter Tryd.func52, Tryd.ntmps52
  go_wp2
  go_loopw [3] (fun i wr => i = .int .i64 0 ∧ w = wr) (fun _ _ => 0)
  case atStart => exact ⟨rfl, rfl⟩
  case round =>
    obtain ⟨rfl, rfl⟩ := hrel
    go_wp2
    go_ret
    exact ⟨rfl, rfl⟩
set_option maxHeartbeats 1000000 in
theorem fillCall_noneR (Bk : Nat) (T TR : Value) (m : Nat) (L LR : List Held) (w : World) (h : BookR Bk T TR m L LR w) :
    Calls Tryd.prog 29 #[.pointer (some ⟨Bk, 0, none⟩)] w fun e w' => e = .returned (.tuple #[]) ∧ w = w' := by
  have c0 : w.cell? ⟨Bk, 11, none⟩ = some (.slice none 0 0) := blk_cell' h.at_ 11
  clear h
  go_enter Tryd.func29, Tryd.ntmps29
  go_wp2
  go_loopw [2] (fun i wr => i = .int .i64 0 ∧ w = wr) (fun _ _ => 0)
  case atStart => exact ⟨rfl, rfl⟩
  case round =>
    obtain ⟨rfl, rfl⟩ := hrel
    go_wp2
    go_end0
    exact ⟨rfl, rfl⟩
set_option maxHeartbeats 1000000 in
theorem growCall_noneR (Bk : Nat) (T TR : Value) (m : Nat) (L LR : List Held) (w : World) (h : BookR Bk T TR m L LR w) :
    Calls Tryd.prog 41 #[.pointer (some ⟨Bk, 0, none⟩)] w fun e w' => e = .returned (.tuple #[]) ∧ w = w' := by
  have c0 : w.cell? ⟨Bk, 11, none⟩ = some (.slice none 0 0) := blk_cell' h.at_ 11
  clear h
  go_enter Tryd.func41, Tryd.ntmps41
  go_wp2
  go_loopw [2] (fun i wr => i = .int .i64 0 ∧ w = wr) (fun _ _ => 0)
  case atStart => exact ⟨rfl, rfl⟩
  case round =>
    obtain ⟨rfl, rfl⟩ := hrel
    go_wp2
    go_end0
    exact ⟨rfl, rfl⟩
set_option maxHeartbeats 1000000 in
theorem lookCall_noneR (Bk : Nat) (T TR : Value) (m : Nat) (L LR : List Held) (w : World) (h : BookR Bk T TR m L LR w) :
    Calls Tryd.prog 53 #[.pointer (some ⟨Bk, 0, none⟩)] w fun e w' => e = .returned (.bool true) ∧ w = w' := by
  have c0 : w.cell? ⟨Bk, 11, none⟩ = some (.slice none 0 0) := blk_cell' h.at_ 11
  clear h
  go_enter Tryd.func53, Tryd.ntmps53
  go_wp2
  go_loopw [3] (fun i wr => i = .int .i64 0 ∧ w = wr) (fun _ _ => 0)
  case atStart => exact ⟨rfl, rfl⟩
  case round =>
    obtain ⟨rfl, rfl⟩ := hrel
    go_wp2
    go_ret
    exact ⟨rfl, rfl⟩
set_option maxHeartbeats 1000000 in
theorem fillStep_noneR (Bk : Nat) (T TR : Value) (m : Nat) (L LR : List Held) (w : World) (h : BookR Bk T TR m L LR w) :
    Calls Tryd.prog 30 #[.pointer (some ⟨Bk, 0, none⟩)] w fun e w' => e = .returned (.tuple #[]) ∧ w = w' := by
  have c0 : w.cell? ⟨Bk, 12, none⟩ = some (.slice none 0 0) := blk_cell' h.at_ 12
  clear h
  go_enter Tryd.func30, Tryd.ntmps30
  go_wp2
  go_loopw [2] (fun i wr => i = .int .i64 0 ∧ w = wr) (fun _ _ => 0)
  case atStart => exact ⟨rfl, rfl⟩
  case round =>
    obtain ⟨rfl, rfl⟩ := hrel
    go_wp2
    go_end0
    exact ⟨rfl, rfl⟩
set_option maxHeartbeats 1000000 in
theorem growStep_noneR (Bk : Nat) (T TR : Value) (m : Nat) (L LR : List Held) (w : World) (h : BookR Bk T TR m L LR w) :
    Calls Tryd.prog 42 #[.pointer (some ⟨Bk, 0, none⟩)] w fun e w' => e = .returned (.tuple #[]) ∧ w = w' := by
  have c0 : w.cell? ⟨Bk, 12, none⟩ = some (.slice none 0 0) := blk_cell' h.at_ 12
  clear h
  go_enter Tryd.func42, Tryd.ntmps42
  go_wp2
  go_loopw [2] (fun i wr => i = .int .i64 0 ∧ w = wr) (fun _ _ => 0)
  case atStart => exact ⟨rfl, rfl⟩
  case round =>
    obtain ⟨rfl, rfl⟩ := hrel
    go_wp2
    go_end0
    exact ⟨rfl, rfl⟩
set_option maxHeartbeats 1000000 in
theorem lookStep_noneR (Bk : Nat) (T TR : Value) (m : Nat) (L LR : List Held) (w : World) (h : BookR Bk T TR m L LR w) :
    Calls Tryd.prog 54 #[.pointer (some ⟨Bk, 0, none⟩)] w fun e w' => e = .returned (.bool true) ∧ w = w' := by
  have c0 : w.cell? ⟨Bk, 12, none⟩ = some (.slice none 0 0) := blk_cell' h.at_ 12
  clear h
  go_enter Tryd.func54, Tryd.ntmps54
  go_wp2
  go_loopw [3] (fun i wr => i = .int .i64 0 ∧ w = wr) (fun _ _ => 0)
  case atStart => exact ⟨rfl, rfl⟩
  case round =>
    obtain ⟨rfl, rfl⟩ := hrel
    go_wp2
    go_ret
    exact ⟨rfl, rfl⟩
/-- Lists of texts, and a list of lists, each in a block of its own below the book's. -/
structure ReadyR (B0 Bk m : Nat) (T TR : Value) (L : List Held) (X : Nat → List ByteArray) (N G n cap : Nat) (xs : List Value) (w : World) : Prop where
  book : BookR Bk T TR m L [⟨.slice (some ⟨G, 0, none⟩) n cap, .slice none 0 0, N⟩] w
  few : L.length ≤ 100000
  apart : ApartR Bk L
  rows : RowsL B0 L X w
  base : B0 ≤ Bk
  short : ∀ j, j < L.length → (X j).length ≤ 8796093022000
  row : w.ownsRow B0 25 1 (.slice (some ⟨G, 0, none⟩) n cap) n xs
  lowG : G < Bk
  smallN : N ≤ 1000000
  small : n ≤ 1000000
  pw : ∀ V, Below B0 w V → PW V
theorem longs_same {B0 Bk m : Nat} {T TR : Value} {L L' LR : List Held} {X : Nat → List ByteArray} {w1 W W' : World} (hshort : ∀ j, j < L.length → (X j).length ≤ 8796093022000) (hA : ApartR Bk L) (hg : GrowInvR B0 Bk m T TR L LR (marksTo L X L.length) w1 L.length L' W) (hk : KpS W W') : ∀ i, i < L'.length → LookOKR B0 (L'.getD i zH) W' := by
  intro i hi
  have hi' : i < L.length := by rw [← hg.len]; exact hi
  obtain ⟨s1, s2⟩ := hg.same i hi'
  have e : marksTo L X L.length i = List.replicate (X i).length (markS (L.getD i zH).n) := by unfold marksTo; rw [if_pos hi']
  have hr := hg.rows i hi'
  have hl := (hg.longs i hi').1
  rw [e, List.length_replicate] at hr hl
  refine ⟨(X i).length, hshort i hi', by rw [s2]; exact hA.num i hi', by rw [s1, s2]; exact hk _ _ _ _ hr, ?_⟩
  rw [s2, ← List.replicate_append_replicate]
  exact hk _ _ _ _ hl
set_option maxHeartbeats 8000000 in
set_option maxRecDepth 100000 in
theorem apartR_calls (B0 Bk m : Nat) (T TR : Value) (L : List Held) (X : Nat → List ByteArray) (N G n cap : Nat) (xs : List Value) (w : World) (h : ReadyR B0 Bk m T TR L X N G n cap xs w) :
    Calls Tryd.prog 12 #[.pointer (some ⟨Bk, 0, none⟩)] w fun e w' => e = .returned (.bool true) ∧ Below B0 w w' := by
  have HB := Lib.hid h.book
  have H := Lib.hid h
  have hB0 : B0 ≤ w.heap.size := Nat.le_trans h.base (Nat.le_of_lt (blk_lt h.book.at_))
  have hGne : ∀ i, i < L.length → (L.getD i zH).v.ownBlock ≠ some G := fun i hi e => by
    rcases own_type_ne (h.rows i hi) h.row (by decide) with h1 | h1
    · rw [h1] at e; cases e
    · exact h1 e
  have HGN := Lib.hid hGne
  clear h hGne
  go_enter Tryd.func12, Tryd.ntmps12
  go_wp2_with (first | (go_at_call 19; with_reducible refine (fillByte_noneR Bk _ _ _ _ _ _ HB.out).mono ?_; rintro e w' ⟨rfl, rfl⟩) | (go_at_call 20; with_reducible refine (fillInt_noneR Bk _ _ _ _ _ _ HB.out).mono ?_; rintro e w' ⟨rfl, rfl⟩) | (go_at_call 22; with_reducible refine (fillBlob_noneR Bk _ _ _ _ _ _ HB.out).mono ?_; rintro e w' ⟨rfl, rfl⟩) | (go_at_call 24; with_reducible refine (fillFlag_noneR Bk _ _ _ _ _ _ HB.out).mono ?_; rintro e w' ⟨rfl, rfl⟩) | (go_at_call 25; with_reducible refine (fillRange_noneR Bk _ _ _ _ _ _ HB.out).mono ?_; rintro e w' ⟨rfl, rfl⟩) | (go_at_call 26; with_reducible refine (fillChange_noneR Bk _ _ _ _ _ _ HB.out).mono ?_; rintro e w' ⟨rfl, rfl⟩) | (go_at_call 27; with_reducible refine (fillEntry_noneR Bk _ _ _ _ _ _ HB.out).mono ?_; rintro e w' ⟨rfl, rfl⟩) | (go_at_call 28; with_reducible refine (fillNode_noneR Bk _ _ _ _ _ _ HB.out).mono ?_; rintro e w' ⟨rfl, rfl⟩) | (go_at_call 29; with_reducible refine (fillCall_noneR Bk _ _ _ _ _ _ HB.out).mono ?_; rintro e w' ⟨rfl, rfl⟩) | (go_at_call 30; with_reducible refine (fillStep_noneR Bk _ _ _ _ _ _ HB.out).mono ?_; rintro e w' ⟨rfl, rfl⟩) | (go_at_call 21; with_reducible refine (fillTextR_calls B0 Bk T TR m L _ X _ H.out.pw HB.out H.out.few H.out.apart H.out.rows H.out.base).mono ?_))
  rintro e w1 ⟨rfl, hb1, hr1, hl1, hf1⟩
  have HB1 := Lib.hid hb1
  have HR1 := Lib.hid hr1
  have HL1 := Lib.hid hl1
  have HF1 := Lib.hid hf1
  have HG1 := Lib.hid (show w1.ownsRow B0 25 1 (.slice (some ⟨G, 0, none⟩) n cap) n xs from own_move H.out.row (fun b hb => hf1 b (own_lt H.out.row b hb) (fun i hi e => HGN.out i hi (by rw [e]; exact hb.symm ▸ rfl))))
  clear hb1 hr1 hl1 hf1
  go_wp2_with (first | (go_at_call 19; with_reducible refine (fillByte_noneR Bk _ _ _ _ _ _ HB1.out).mono ?_; rintro e w' ⟨rfl, rfl⟩) | (go_at_call 20; with_reducible refine (fillInt_noneR Bk _ _ _ _ _ _ HB1.out).mono ?_; rintro e w' ⟨rfl, rfl⟩) | (go_at_call 22; with_reducible refine (fillBlob_noneR Bk _ _ _ _ _ _ HB1.out).mono ?_; rintro e w' ⟨rfl, rfl⟩) | (go_at_call 24; with_reducible refine (fillFlag_noneR Bk _ _ _ _ _ _ HB1.out).mono ?_; rintro e w' ⟨rfl, rfl⟩) | (go_at_call 25; with_reducible refine (fillRange_noneR Bk _ _ _ _ _ _ HB1.out).mono ?_; rintro e w' ⟨rfl, rfl⟩) | (go_at_call 26; with_reducible refine (fillChange_noneR Bk _ _ _ _ _ _ HB1.out).mono ?_; rintro e w' ⟨rfl, rfl⟩) | (go_at_call 27; with_reducible refine (fillEntry_noneR Bk _ _ _ _ _ _ HB1.out).mono ?_; rintro e w' ⟨rfl, rfl⟩) | (go_at_call 28; with_reducible refine (fillNode_noneR Bk _ _ _ _ _ _ HB1.out).mono ?_; rintro e w' ⟨rfl, rfl⟩) | (go_at_call 29; with_reducible refine (fillCall_noneR Bk _ _ _ _ _ _ HB1.out).mono ?_; rintro e w' ⟨rfl, rfl⟩) | (go_at_call 30; with_reducible refine (fillStep_noneR Bk _ _ _ _ _ _ HB1.out).mono ?_; rintro e w' ⟨rfl, rfl⟩) | (go_at_call 23; with_reducible refine (fillRowR_calls B0 Bk T TR m L N G n cap xs _ (fun V hV => H.out.pw V (HL1.out.trans hV)) HB1.out H.out.smallN H.out.small H.out.lowG HG1.out H.out.base).mono ?_))
  rintro e w2 ⟨rfl, hF2⟩
  have HF2 := Lib.hid hF2
  have HR2 := Lib.hid (show RowsL B0 L (marksTo L X L.length) w2 from fun i hi => own_move (HR1.out i hi) (fun b hb => hF2.fr b (own_lt (HR1.out i hi) b hb) (fun e => by
    rcases own_type_ne (HR1.out i hi) HG1.out (by decide) with h1 | h1
    · rw [h1] at hb; cases hb
    · exact h1 (by rw [hb, e]; rfl))))
  obtain ⟨ms, hml, hms, hrow2⟩ := hF2.row
  have HB2 := Lib.hid hF2.book
  have HL2 := Lib.hid (HL1.out.trans hF2.low)
  have HM2 := Lib.hid (And.intro hml (And.intro hms hrow2))
  clear hF2 hml hms hrow2
  go_wp2_with (first | (go_at_call 19; with_reducible refine (fillByte_noneR Bk _ _ _ _ _ _ HB2.out).mono ?_; rintro e w' ⟨rfl, rfl⟩) | (go_at_call 20; with_reducible refine (fillInt_noneR Bk _ _ _ _ _ _ HB2.out).mono ?_; rintro e w' ⟨rfl, rfl⟩) | (go_at_call 22; with_reducible refine (fillBlob_noneR Bk _ _ _ _ _ _ HB2.out).mono ?_; rintro e w' ⟨rfl, rfl⟩) | (go_at_call 24; with_reducible refine (fillFlag_noneR Bk _ _ _ _ _ _ HB2.out).mono ?_; rintro e w' ⟨rfl, rfl⟩) | (go_at_call 25; with_reducible refine (fillRange_noneR Bk _ _ _ _ _ _ HB2.out).mono ?_; rintro e w' ⟨rfl, rfl⟩) | (go_at_call 26; with_reducible refine (fillChange_noneR Bk _ _ _ _ _ _ HB2.out).mono ?_; rintro e w' ⟨rfl, rfl⟩) | (go_at_call 27; with_reducible refine (fillEntry_noneR Bk _ _ _ _ _ _ HB2.out).mono ?_; rintro e w' ⟨rfl, rfl⟩) | (go_at_call 28; with_reducible refine (fillNode_noneR Bk _ _ _ _ _ _ HB2.out).mono ?_; rintro e w' ⟨rfl, rfl⟩) | (go_at_call 29; with_reducible refine (fillCall_noneR Bk _ _ _ _ _ _ HB2.out).mono ?_; rintro e w' ⟨rfl, rfl⟩) | (go_at_call 30; with_reducible refine (fillStep_noneR Bk _ _ _ _ _ _ HB2.out).mono ?_; rintro e w' ⟨rfl, rfl⟩) | (go_at_call 31; with_reducible refine (growByte_noneR Bk _ _ _ _ _ _ HB2.out).mono ?_; rintro e w' ⟨rfl, rfl⟩) | (go_at_call 32; with_reducible refine (growInt_noneR Bk _ _ _ _ _ _ HB2.out).mono ?_; rintro e w' ⟨rfl, rfl⟩) | (go_at_call 34; with_reducible refine (growBlob_noneR Bk _ _ _ _ _ _ HB2.out).mono ?_; rintro e w' ⟨rfl, rfl⟩) | (go_at_call 36; with_reducible refine (growFlag_noneR Bk _ _ _ _ _ _ HB2.out).mono ?_; rintro e w' ⟨rfl, rfl⟩) | (go_at_call 37; with_reducible refine (growRange_noneR Bk _ _ _ _ _ _ HB2.out).mono ?_; rintro e w' ⟨rfl, rfl⟩) | (go_at_call 38; with_reducible refine (growChange_noneR Bk _ _ _ _ _ _ HB2.out).mono ?_; rintro e w' ⟨rfl, rfl⟩) | (go_at_call 39; with_reducible refine (growEntry_noneR Bk _ _ _ _ _ _ HB2.out).mono ?_; rintro e w' ⟨rfl, rfl⟩) | (go_at_call 40; with_reducible refine (growNode_noneR Bk _ _ _ _ _ _ HB2.out).mono ?_; rintro e w' ⟨rfl, rfl⟩) | (go_at_call 41; with_reducible refine (growCall_noneR Bk _ _ _ _ _ _ HB2.out).mono ?_; rintro e w' ⟨rfl, rfl⟩) | (go_at_call 42; with_reducible refine (growStep_noneR Bk _ _ _ _ _ _ HB2.out).mono ?_; rintro e w' ⟨rfl, rfl⟩) | (go_at_call 33; with_reducible refine (growTextR_calls B0 Bk T TR m L _ (marksTo L X L.length) (fun j hj => by rw [marks_len]; exact H.out.short j hj) _ (fun V hV => H.out.pw V (HL2.out.trans hV)) HB2.out H.out.few H.out.apart HR2.out H.out.base).mono ?_))
  rintro e w3 ⟨rfl, L', hG⟩
  have HG3 := Lib.hid hG
  have HB3 := Lib.hid hG.book
  have HL3 := Lib.hid (HL2.out.trans hG.low)
  have hw1 : w.heap.size ≤ w1.heap.size := HL1.out.size
  have hTlt : ∀ b, T.ownBlock = some b → b < w.heap.size := fun b hb => own_lt HB.out.own b hb
  have hXlt : ∀ i, i < L.length → ∀ b, (L.getD i zH).v.ownBlock = some b → b < w.heap.size := fun i hi b hb => own_lt (H.out.rows i hi) b hb
  have HM3 := Lib.hid (show Mks N 0 ms w3 ∧ w3.ownsRow B0 25 1 (.slice (some ⟨G, 0, none⟩) n cap) n (mrk ms) from ⟨fun g hg => ⟨Nat.zero_le _, by
      have hm := HM2.out.2.1 g hg
      have hlt := (Array.getElem?_eq_some_iff.1 hm.2).1
      exact (hG.fr g hlt (fun i hi e => by have := hXlt i hi g e; have := hm.1; omega) (fun e => by have := hTlt g e; have := hm.1; omega)).trans hm.2⟩,
    own_move HM2.out.2.2 (fun b hb => hG.fr b (own_lt HM2.out.2.2 b hb) (fun i hi e => HGN.out i hi (by rw [e]; exact hb.symm ▸ rfl)) (fun e => by
      rcases own_type_ne HM2.out.2.2 HB2.out.own (by decide) with h1 | h1
      · rw [h1] at hb; cases hb
      · exact h1 (by rw [hb, e])))⟩)
  clear hG hw1 hTlt hXlt
  go_wp2_with (first | (go_at_call 31; with_reducible refine (growByte_noneR Bk _ _ _ _ _ _ HB3.out).mono ?_; rintro e w' ⟨rfl, rfl⟩) | (go_at_call 32; with_reducible refine (growInt_noneR Bk _ _ _ _ _ _ HB3.out).mono ?_; rintro e w' ⟨rfl, rfl⟩) | (go_at_call 34; with_reducible refine (growBlob_noneR Bk _ _ _ _ _ _ HB3.out).mono ?_; rintro e w' ⟨rfl, rfl⟩) | (go_at_call 36; with_reducible refine (growFlag_noneR Bk _ _ _ _ _ _ HB3.out).mono ?_; rintro e w' ⟨rfl, rfl⟩) | (go_at_call 37; with_reducible refine (growRange_noneR Bk _ _ _ _ _ _ HB3.out).mono ?_; rintro e w' ⟨rfl, rfl⟩) | (go_at_call 38; with_reducible refine (growChange_noneR Bk _ _ _ _ _ _ HB3.out).mono ?_; rintro e w' ⟨rfl, rfl⟩) | (go_at_call 39; with_reducible refine (growEntry_noneR Bk _ _ _ _ _ _ HB3.out).mono ?_; rintro e w' ⟨rfl, rfl⟩) | (go_at_call 40; with_reducible refine (growNode_noneR Bk _ _ _ _ _ _ HB3.out).mono ?_; rintro e w' ⟨rfl, rfl⟩) | (go_at_call 41; with_reducible refine (growCall_noneR Bk _ _ _ _ _ _ HB3.out).mono ?_; rintro e w' ⟨rfl, rfl⟩) | (go_at_call 42; with_reducible refine (growStep_noneR Bk _ _ _ _ _ _ HB3.out).mono ?_; rintro e w' ⟨rfl, rfl⟩) | (go_at_call 35; with_reducible refine (growRowR_calls B0 Bk T TR m L' N G n cap ms _ (fun V hV => H.out.pw V (HL3.out.trans hV)) HB3.out H.out.smallN H.out.small H.out.lowG HM3.out.1 HM2.out.1 HM3.out.2 H.out.base).mono ?_))
  rintro e w4 ⟨rfl, hR⟩
  have HK := Lib.hid (longs_same H.out.short H.out.apart HG3.out hR.kp)
  have HL4 := Lib.hid (HL3.out.trans hR.low)
  obtain ⟨gl, cl, ms1, ms2, hb4, hm1, hm2, hk1, hk2, ho1, ho2⟩ := hR.ex
  have HB4 := Lib.hid hb4
  have HO4 := Lib.hid (And.intro hm1 (And.intro hm2 (And.intro hk1 (And.intro hk2 (And.intro ho1 ho2)))))
  have HL5 := Lib.hid (show L'.length ≤ 100000 by rw [HG3.out.len]; exact H.out.few)
  have hb04 : B0 ≤ w4.heap.size := Nat.le_trans hB0 HL4.out.size
  clear hR hb4 hm1 hm2 hk1 hk2 ho1 ho2
  go_wp2_with (first | (go_at_call 31; with_reducible refine (growByte_noneR Bk _ _ _ _ _ _ HB4.out).mono ?_; rintro e w' ⟨rfl, rfl⟩) | (go_at_call 32; with_reducible refine (growInt_noneR Bk _ _ _ _ _ _ HB4.out).mono ?_; rintro e w' ⟨rfl, rfl⟩) | (go_at_call 34; with_reducible refine (growBlob_noneR Bk _ _ _ _ _ _ HB4.out).mono ?_; rintro e w' ⟨rfl, rfl⟩) | (go_at_call 36; with_reducible refine (growFlag_noneR Bk _ _ _ _ _ _ HB4.out).mono ?_; rintro e w' ⟨rfl, rfl⟩) | (go_at_call 37; with_reducible refine (growRange_noneR Bk _ _ _ _ _ _ HB4.out).mono ?_; rintro e w' ⟨rfl, rfl⟩) | (go_at_call 38; with_reducible refine (growChange_noneR Bk _ _ _ _ _ _ HB4.out).mono ?_; rintro e w' ⟨rfl, rfl⟩) | (go_at_call 39; with_reducible refine (growEntry_noneR Bk _ _ _ _ _ _ HB4.out).mono ?_; rintro e w' ⟨rfl, rfl⟩) | (go_at_call 40; with_reducible refine (growNode_noneR Bk _ _ _ _ _ _ HB4.out).mono ?_; rintro e w' ⟨rfl, rfl⟩) | (go_at_call 41; with_reducible refine (growCall_noneR Bk _ _ _ _ _ _ HB4.out).mono ?_; rintro e w' ⟨rfl, rfl⟩) | (go_at_call 42; with_reducible refine (growStep_noneR Bk _ _ _ _ _ _ HB4.out).mono ?_; rintro e w' ⟨rfl, rfl⟩) | (go_at_call 43; with_reducible refine (lookByte_noneR Bk _ _ _ _ _ _ HB4.out).mono ?_; rintro e w' ⟨rfl, rfl⟩) | (go_at_call 44; with_reducible refine (lookInt_noneR Bk _ _ _ _ _ _ HB4.out).mono ?_; rintro e w' ⟨rfl, rfl⟩) | (go_at_call 46; with_reducible refine (lookBlob_noneR Bk _ _ _ _ _ _ HB4.out).mono ?_; rintro e w' ⟨rfl, rfl⟩) | (go_at_call 48; with_reducible refine (lookFlag_noneR Bk _ _ _ _ _ _ HB4.out).mono ?_; rintro e w' ⟨rfl, rfl⟩) | (go_at_call 49; with_reducible refine (lookRange_noneR Bk _ _ _ _ _ _ HB4.out).mono ?_; rintro e w' ⟨rfl, rfl⟩) | (go_at_call 50; with_reducible refine (lookChange_noneR Bk _ _ _ _ _ _ HB4.out).mono ?_; rintro e w' ⟨rfl, rfl⟩) | (go_at_call 51; with_reducible refine (lookEntry_noneR Bk _ _ _ _ _ _ HB4.out).mono ?_; rintro e w' ⟨rfl, rfl⟩) | (go_at_call 52; with_reducible refine (lookNode_noneR Bk _ _ _ _ _ _ HB4.out).mono ?_; rintro e w' ⟨rfl, rfl⟩) | (go_at_call 53; with_reducible refine (lookCall_noneR Bk _ _ _ _ _ _ HB4.out).mono ?_; rintro e w' ⟨rfl, rfl⟩) | (go_at_call 54; with_reducible refine (lookStep_noneR Bk _ _ _ _ _ _ HB4.out).mono ?_; rintro e w' ⟨rfl, rfl⟩) | (go_at_call 45; with_reducible refine (lookTextR_calls B0 Bk T TR m L' _ _ (fun V hV => H.out.pw V (HL4.out.trans (hV.mono hb04))) HB4.out HL5.out HK.out).mono ?_))
  rintro e w5 ⟨rfl, hb5⟩
  have HB5 := Lib.hid (book_belowR HB4.out hb5)
  have HL6 := Lib.hid (HL4.out.trans (hb5.mono hb04))
  have HO5 := Lib.hid (show Mks N 0 ms1 w5 ∧ Mks N 0 ms2 w5 ∧ w5.ownsRow B0 25 1 (.slice (some ⟨G, 0, none⟩) n cap) n (mrk ms1) ∧ w5.ownsRow B0 25 1 (.slice (some ⟨gl, 0, none⟩) (n + 40) cl) (n + 40) (mrk ms1 ++ mrk ms2) from ⟨HO4.out.2.2.1.below hb5, HO4.out.2.2.2.1.below hb5, pw_own_below HO4.out.2.2.2.2.1 hb5, pw_own_below HO4.out.2.2.2.2.2 hb5⟩)
  have hb05 : B0 ≤ w5.heap.size := Nat.le_trans hB0 HL6.out.size
  clear hb5
  go_wp2_with (first | (go_at_call 43; with_reducible refine (lookByte_noneR Bk _ _ _ _ _ _ HB5.out).mono ?_; rintro e w' ⟨rfl, rfl⟩) | (go_at_call 44; with_reducible refine (lookInt_noneR Bk _ _ _ _ _ _ HB5.out).mono ?_; rintro e w' ⟨rfl, rfl⟩) | (go_at_call 46; with_reducible refine (lookBlob_noneR Bk _ _ _ _ _ _ HB5.out).mono ?_; rintro e w' ⟨rfl, rfl⟩) | (go_at_call 48; with_reducible refine (lookFlag_noneR Bk _ _ _ _ _ _ HB5.out).mono ?_; rintro e w' ⟨rfl, rfl⟩) | (go_at_call 49; with_reducible refine (lookRange_noneR Bk _ _ _ _ _ _ HB5.out).mono ?_; rintro e w' ⟨rfl, rfl⟩) | (go_at_call 50; with_reducible refine (lookChange_noneR Bk _ _ _ _ _ _ HB5.out).mono ?_; rintro e w' ⟨rfl, rfl⟩) | (go_at_call 51; with_reducible refine (lookEntry_noneR Bk _ _ _ _ _ _ HB5.out).mono ?_; rintro e w' ⟨rfl, rfl⟩) | (go_at_call 52; with_reducible refine (lookNode_noneR Bk _ _ _ _ _ _ HB5.out).mono ?_; rintro e w' ⟨rfl, rfl⟩) | (go_at_call 53; with_reducible refine (lookCall_noneR Bk _ _ _ _ _ _ HB5.out).mono ?_; rintro e w' ⟨rfl, rfl⟩) | (go_at_call 54; with_reducible refine (lookStep_noneR Bk _ _ _ _ _ _ HB5.out).mono ?_; rintro e w' ⟨rfl, rfl⟩) | (go_at_call 47; with_reducible refine (lookRowR_calls B0 Bk T TR m L' N G n cap gl cl ms1 ms2 _ (fun V hV => H.out.pw V (HL6.out.trans (hV.mono hb05))) HB5.out H.out.smallN H.out.small HO4.out.1 HO4.out.2.1 HO5.out.1 HO5.out.2.1 HO5.out.2.2.1 HO5.out.2.2.2).mono ?_))
  rintro e w6 ⟨rfl, hb6⟩
  have HB6 := Lib.hid (book_belowR HB5.out hb6)
  have HL7 := Lib.hid (HL6.out.trans (hb6.mono hb05))
  clear hb6
  go_wp2_with (first | (go_at_call 43; with_reducible refine (lookByte_noneR Bk _ _ _ _ _ _ HB6.out).mono ?_; rintro e w' ⟨rfl, rfl⟩) | (go_at_call 44; with_reducible refine (lookInt_noneR Bk _ _ _ _ _ _ HB6.out).mono ?_; rintro e w' ⟨rfl, rfl⟩) | (go_at_call 46; with_reducible refine (lookBlob_noneR Bk _ _ _ _ _ _ HB6.out).mono ?_; rintro e w' ⟨rfl, rfl⟩) | (go_at_call 48; with_reducible refine (lookFlag_noneR Bk _ _ _ _ _ _ HB6.out).mono ?_; rintro e w' ⟨rfl, rfl⟩) | (go_at_call 49; with_reducible refine (lookRange_noneR Bk _ _ _ _ _ _ HB6.out).mono ?_; rintro e w' ⟨rfl, rfl⟩) | (go_at_call 50; with_reducible refine (lookChange_noneR Bk _ _ _ _ _ _ HB6.out).mono ?_; rintro e w' ⟨rfl, rfl⟩) | (go_at_call 51; with_reducible refine (lookEntry_noneR Bk _ _ _ _ _ _ HB6.out).mono ?_; rintro e w' ⟨rfl, rfl⟩) | (go_at_call 52; with_reducible refine (lookNode_noneR Bk _ _ _ _ _ _ HB6.out).mono ?_; rintro e w' ⟨rfl, rfl⟩) | (go_at_call 53; with_reducible refine (lookCall_noneR Bk _ _ _ _ _ _ HB6.out).mono ?_; rintro e w' ⟨rfl, rfl⟩) | (go_at_call 54; with_reducible refine (lookStep_noneR Bk _ _ _ _ _ _ HB6.out).mono ?_; rintro e w' ⟨rfl, rfl⟩))
  go_ret
  exact ⟨rfl, HL7.out⟩
end Go.Proofs.YtlicjpbmlmongaaDoor.H
