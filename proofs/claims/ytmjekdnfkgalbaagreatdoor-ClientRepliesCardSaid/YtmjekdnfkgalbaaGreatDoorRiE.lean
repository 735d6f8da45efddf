/- usherlaw18: known. ReplyHeads. -/
import Derived.Test.YtmjekdnfkgalbaaGreatDoorRiB
import Derived.Test.YtmjekdnfkgalbaaGreatDoorRiA
import Derived.Test.YtmjekdnfkgalbaaGreatDoorReJ
import Derived.Lib.SlBytesConst
namespace Go.Proofs.YtmjekdnfkgalbaaGreatDoor
open Go.RowKit
set_option maxRecDepth 100000
set_option maxHeartbeats 4000000

def kn18 : Bs := [72, 84, 84, 80, 47, 49, 46, 49, 32, 50, 48, 52, 32, 78, 111, 32, 67, 111, 110, 116, 101, 110, 116, 13, 10, 67, 111, 110, 110, 101, 99, 116, 105, 111, 110, 58, 32, 99, 108, 111, 115, 101, 13, 10, 13, 10]
theorem kn_enc : encR ⟨204, [], [], []⟩ false 1 true = (kn18, 0) := by decide +kernel
theorem kn_cells : kn18.map bv = [.int .u8 72, .int .u8 84, .int .u8 84, .int .u8 80, .int .u8 47, .int .u8 49, .int .u8 46, .int .u8 49, .int .u8 32, .int .u8 50, .int .u8 48, .int .u8 52, .int .u8 32, .int .u8 78, .int .u8 111, .int .u8 32, .int .u8 67, .int .u8 111, .int .u8 110, .int .u8 116, .int .u8 101, .int .u8 110, .int .u8 116, .int .u8 13, .int .u8 10, .int .u8 67, .int .u8 111, .int .u8 110, .int .u8 110, .int .u8 101, .int .u8 99, .int .u8 116, .int .u8 105, .int .u8 111, .int .u8 110, .int .u8 58, .int .u8 32, .int .u8 99, .int .u8 108, .int .u8 111, .int .u8 115, .int .u8 101, .int .u8 13, .int .u8 10, .int .u8 13, .int .u8 10] := by kernel_rfl
theorem kn_len : kn18.length = 46 := rfl
theorem law_known18 (w : World) (htz : TZ w) (ht : Tab10 w) :
    Calls Tryz.prog 19 #[] w fun e w' => e = .returned (.bool true) ∧ Below w.heap.size w w' := by
  have kc := fun (w : World) (C : Array Value) (n c g : Nat) (hg : g = w.heap.size) => Go.Joins.run_convert_bytes_const_at (P := Tryz.prog) w 22 5 C n c g hg Tryz.underlying22 Tryz.underlying5
  obtain ⟨C, F, hr, ho, hb⟩ := bytes_ruleR (P := Tryz.prog) 9 22 5 ⟨contW.toArray⟩ Tryz.underlying9 Tryz.underlying22 Tryz.underlying5 (by decide)
  have hr' : ∀ w, (convert 9 22 (sv contW)).run Tryz.prog w = .ok (.slice (some ⟨w.heap.size, 0, none⟩) 25 (C w)) (F w) := hr
  have hE := rep_Encode ⟨⟨204, [], [], []⟩, none, 0, none, 0, none, 0⟩ false 1 true w ⟨Rd.nil _ _ _ _, Rd.nil _ _ _ _, Rd.nil _ _ _ _, Nat.le_refl _, Nat.le_refl _, Nat.le_refl _⟩ ⟨fun f hf => (by cases hf), by decide, by decide, by decide⟩ htz ht (fun _ => ⟨by decide, by decide, by decide, fun f hf => (by cases hf)⟩)
  rw [kn_enc] at hE
  have hE' : Calls Tryz.prog 21 #[.agg #[.int .i64 204, .slice none 0 0, .slice none 0 0, .slice none 0 0], .bool false, .int .i64 1, .bool true] w (EncPost w (kn18, 0)) := hE
  clear hE hr
  go_enter Tryz.func19, Tryz.ntmps19
  go_wp2_with fail
  refine hE'.mono ?_
  rintro e w1 ⟨A1, c1, rfl, hc1, hO1, L1⟩
  have hO1' : Own w1 w.heap.size 5 1 (.slice A1 46 c1) 46 (kn18.map bv) := hO1
  have R1 := (Own.rdS hO1').2.2
  have La := allocW (Below.refl w1.heap.size w1) (.cells #[.int .u8 72, .int .u8 84, .int .u8 84, .int .u8 80, .int .u8 47, .int .u8 49, .int .u8 46, .int .u8 49, .int .u8 32, .int .u8 50, .int .u8 48, .int .u8 52, .int .u8 32, .int .u8 78, .int .u8 111, .int .u8 32, .int .u8 67, .int .u8 111, .int .u8 110, .int .u8 116, .int .u8 101, .int .u8 110, .int .u8 116, .int .u8 13, .int .u8 10, .int .u8 67, .int .u8 111, .int .u8 110, .int .u8 110, .int .u8 101, .int .u8 99, .int .u8 116, .int .u8 105, .int .u8 111, .int .u8 110, .int .u8 58, .int .u8 32, .int .u8 99, .int .u8 108, .int .u8 111, .int .u8 115, .int .u8 101, .int .u8 13, .int .u8 10, .int .u8 13, .int .u8 10] 5 (46, 47))
  have R2 : Rd (w1.alloc (.cells #[.int .u8 72, .int .u8 84, .int .u8 84, .int .u8 80, .int .u8 47, .int .u8 49, .int .u8 46, .int .u8 49, .int .u8 32, .int .u8 50, .int .u8 48, .int .u8 52, .int .u8 32, .int .u8 78, .int .u8 111, .int .u8 32, .int .u8 67, .int .u8 111, .int .u8 110, .int .u8 116, .int .u8 101, .int .u8 110, .int .u8 116, .int .u8 13, .int .u8 10, .int .u8 67, .int .u8 111, .int .u8 110, .int .u8 110, .int .u8 101, .int .u8 99, .int .u8 116, .int .u8 105, .int .u8 111, .int .u8 110, .int .u8 58, .int .u8 32, .int .u8 99, .int .u8 108, .int .u8 111, .int .u8 115, .int .u8 101, .int .u8 13, .int .u8 10, .int .u8 13, .int .u8 10] 5 (46, 47))) (w1.heap.size + 1) 1 (some ⟨w1.heap.size, 0, none⟩) 46 (kn18.map bv) := by rw [kn_cells]; exact Rd.newM w1 _ rfl _ 5 (46, 47) 46 1 rfl
  have hS := law_same18 A1 46 c1 kn18 _ 46 46 kn18 _ ((R1.alloc (Nat.le_refl _) _).more (by simp)) (R2.more (by simp)) (by decide)
  rw [decide_eq_true rfl] at hS
  rw [kn_len]
  clear hE'
  go_wp2_with fail
  refine hS.mono ?_
  rintro e w2 ⟨rfl, L2⟩
  have N2 := stepW (stepW L1 La) L2
  clear hS R2 La L2 R1 hO1 hO1' hc1
  go_wp2_with fail
  refine (rep_Cont _).mono ?_
  rintro e w3 ⟨c3, rfl, hc3, hO3, L3⟩
  have R3 := (Own.rdS hO3).2.2
  have N3 := stepW N2 L3
  go_wp2_with fail
  refine (ref_Cont _).mono ?_
  rintro e w4 ⟨rfl, rfl⟩
  have hS2 := law_same18 (some ⟨w2.heap.size, 0, none⟩) 25 c3 contW (some ⟨w4.heap.size, 0, none⟩) 25 (C w4) contW (F w4) ((R3.belowW (Nat.le_refl _) (hb _)).more (hb _).size) (Own.rdS (ho _ _ (Nat.le_refl _))).2.2 (by decide)
  rw [decide_eq_true rfl] at hS2
  go_wp2_with fail
  refine hS2.mono ?_
  rintro e w5 ⟨rfl, L5⟩
  have N5 := stepW (stepW N3 (hb _)) L5
  go_wp2
  go_ret
  exact ⟨rfl, N5⟩
end Go.Proofs.YtmjekdnfkgalbaaGreatDoor
namespace Go.Proofs.YtmjekdnfkgalbaaGreatDoor
open Go.RowKit
set_option maxRecDepth 100000
set_option maxHeartbeats 4000000

theorem fdsz_light {r : Rs} (h : Light r) : FdSz r.f := fun f hf => ⟨Nat.le_trans (h.e f hf).1 (by decide), Nat.le_trans (h.e f hf).2 (by decide)⟩
theorem light_z {x : RsP} (h : Light x.r) : RsZ x := ⟨fdsz_light h, by have := h.f; omega, by have := h.b; omega, by have := h.p; omega⟩
theorem EncPost.no {w w' : World} {e : Ending} (h : EncPost w ([], 1) e w') : ∃ A c, e = .returned (.tuple #[.slice A 0 c, .int .i64 1]) ∧ Below w.heap.size w w' := by
  obtain ⟨A, c, h1, -, -, h4⟩ := h
  exact ⟨A, c, h1, h4⟩
theorem EncPost.yes {w w' : World} {e : Ending} {b : Bs} (h : EncPost w (b, 0) e w') : ∃ A c, e = .returned (.tuple #[.slice A b.length c, .int .i64 0]) ∧ b.length ≤ c ∧ c ≤ maxLen ∧ Own w' w.heap.size 5 1 (.slice A b.length c) b.length (b.map bv) ∧ Rd w' w'.heap.size 1 A b.length (b.map bv) ∧ Below w.heap.size w w' := by
  obtain ⟨A, c, h1, h2, h3, h4⟩ := h
  have h3' : Own w' w.heap.size 5 1 (.slice A b.length c) b.length (b.map bv) := h3
  exact ⟨A, c, h1, h2, (Own.rdS h3').2.1, h3', (Own.rdS h3').2.2, h4⟩
end Go.Proofs.YtmjekdnfkgalbaaGreatDoor
