/- head: Line, in all ways; a nil Head. -/
import Derived.Test.YtmnnbfaaaifcoaaGreatDoorHd5
namespace Go.Proofs.YtmnnbfaaaifcoaaGreatDoor
open Go.RowKit
set_option maxRecDepth 100000
set_option maxHeartbeats 4000000

theorem hd_Line (g : Nat) (S : Nat → Prop) (h : HS) (s : ByteArray) (w : World) (k : HR w g S h) (hi : HInv h) (hz : s.size ≤ 1000000) (hm : ML w) (hh : Hi S) :
    Calls Tryz.prog 15 #[.pointer (some ⟨g, 0, none⟩), .string s] w (HLPost w g S (hLine h s.data.toList)) := by
  cases ho : h.on
  · rw [hLine_off h _ ho]
    exact hd_Line_off g S h s w k ho
  obtain ⟨pf, v, rfl, kk⟩ := k
  by_cases hc : 256 < s.size ∨ 1024 < hB h s.data.toList
  · exact hd_Line_long g pf v h s w kk hi ho hz hc
  cases hg : h.begun
  · rcases Nat.eq_zero_or_pos s.size with h0 | h0
    · exact hd_Line_empty g pf v h s w kk hi ho h0 hg hc
    · exact hd_Line_start g pf v h s w kk hi ho h0 hg hc hm hh
  · rcases Nat.eq_zero_or_pos s.size with h0 | h0
    · exact hd_Line_end g pf v h s w kk hi ho h0 hg hc hm hh
    · exact hd_Line_field g pf v h s w kk hi ho h0 hg hc hm hh
theorem hd_Line_nil (s : ByteArray) (w : World) :
    Calls Tryz.prog 15 #[.pointer none, .string s] w fun e w' => e = .returned (.tuple #[.bool false, .int .i64 0]) ∧ w = w' := by
  go_enter Tryz.func15, Tryz.ntmps15
  go_wp2
  go_ret2
  exact ⟨rfl, rfl⟩
theorem hd_Start_nil (w : World) :
    Calls Tryz.prog 16 #[.pointer none] w fun e w' => e = .returned (.tuple #[.string ⟨#[]⟩, tgtV tgt0, .int .i64 0]) ∧ Below w.heap.size w w' := by
  have LV : Below w.heap.size w (w.alloc (.cells #[.int .i64 0, .string ⟨#[]⟩, .string ⟨#[]⟩, .string ⟨#[]⟩] 26)) := allocW (Below.refl _ _) _
  obtain ⟨k0, k1, k2, k3, l0, l1, l2, l3⟩ := (Blk.new' w _ rfl 26 #[.int .i64 0, .string ⟨#[]⟩, .string ⟨#[]⟩, .string ⟨#[]⟩]).c4
  go_enter Tryz.func16, Tryz.ntmps16
  go_wp2
  refine bodyPost_ret (v := .tuple #[.string ⟨#[]⟩, tgtV tgt0, .int .i64 0]) (by simp [results, Tryz.results16, go_sem, tgt0]) rfl ⟨rfl, ?_⟩
  repeat refine setW ?_ (by simp) _
  exact LV
theorem hd_How_nil (w : World) :
    Calls Tryz.prog 17 #[.pointer none] w fun e w' => e = .returned (howV how0) ∧ Below w.heap.size w w' := by
  go_enter Tryz.func17, Tryz.ntmps17
  go_wp2_with fail
  refine bodyPost_ret (v := howV how0) (by simp [results, Tryz.results17, go_sem, how0]) rfl ⟨rfl, ?_⟩
  repeat refine setW ?_ (by simp) _
  exact allocW (Below.refl _ _) _
end Go.Proofs.YtmnnbfaaaifcoaaGreatDoor
