/- head: adds. -/
import Derived.Test.YtmnnbfaaaifcoaaGreatDoorHd
import Derived.Deep.RegionHeld3
namespace Go.Proofs.YtmnnbfaaaifcoaaGreatDoor
open Go.RowKit
set_option maxRecDepth 100000
set_option maxHeartbeats 4000000

theorem parseF_sz (s : Bs) (f : Fd) (h : parseF s = some f) : isF f = true ∧ f.1.length ≤ 256 ∧ f.2.length ≤ 256 := by
  rw [parseF] at h
  split at h
  · cases h
  · rename_i hl
    split at h
    · simp only at h
      split at h
      · rename_i hi
        injection h with h
        subst h
        refine ⟨hi, ?_, ?_⟩
        · exact Nat.le_trans (List.takeWhile_sublist _).length_le (by omega)
        · refine Nat.le_trans (trimL_le _) (Nat.le_trans ?_ (show s.length ≤ 256 by omega))
          have h1 := (List.dropWhile_sublist (l := s) (· != 58)).length_le
          rw [List.length_tail]; omega
      · cases h
    · cases h
/-- A line of a field: the status, the fields behind it. -/
def adL (l : List Fd) (s : Bs) : Int × List Fd :=
  match parseF s with
  | none => (400, l)
  | some f => if 24 ≤ l.length then (431, l) else (0, l ++ [f])
def AddsPost (w : World) (g pf : Nat) (v : Value) (h : HS) (r : Int × List Fd) (e : Ending) (w' : World) : Prop :=
  e = .returned (.int .i64 r.1) ∧ ∃ v', HK w' g pf v' { h with flds := r.2 } ∧ (∀ k, v'.ownBlock = some k → v.ownBlock = some k ∨ w.heap.size ≤ k) ∧ Fr (FS pf v) w w'
theorem HK.flds {w w' : World} {g pf : Nat} {v v' : Value} {h : HS} {l : List Fd} (k : HK w g pf v h) (ha : FA w' 104 pf 0 v' l) (hv : ∀ k, v'.ownBlock = some k → v.ownBlock = some k ∨ w.heap.size ≤ k) (hf : Fr (FS pf v) w w') : HK w' g pf v' { h with flds := l } :=
  ⟨k.blk.fr hf (fun hi => hi.elim k.ne k.no), ha, k.ne, fun h1 => by
    rcases hv g h1 with h2 | h2
    · exact k.no h2
    · have := k.blk.lt; omega⟩
theorem hd_adds (g pf : Nat) (v : Value) (h : HS) (s : ByteArray) (w : World) (k : HK w g pf v h) (hl : h.flds.length ≤ 24) (hm : ML w) :
    Calls Tryz.prog 45 #[.pointer (some ⟨g, 0, none⟩), .string s] w (AddsPost w g pf v h (adL h.flds s.data.toList)) := by
  have j0 : w.cell? ⟨g, 0, none⟩ = some (.pointer (some ⟨pf, 0, none⟩)) := k.blk.cell 0
  have hgl := k.blk.lt
  have hg := k.ne
  go_enter Tryz.func45, Tryz.ntmps45
  go_wp2_with fail
  refine (fld_Parse' s w hm).mono ?_
  rintro e w1 ⟨⟨N, M, er, rfl, hP⟩, L1⟩
  rcases hP with ⟨hP, rfl⟩ | ⟨hP, her⟩
  · obtain ⟨hi, z1, z2⟩ := parseF_sz _ _ hP
    have HR := Lib.hid (show adL h.flds s.data.toList = if 24 ≤ h.flds.length then (431, h.flds) else (0, h.flds ++ [(N.data.toList, M.data.toList)]) by rw [adL, hP])
    have k1 := k.belowW L1
    have j1 : w1.cell? ⟨g, 0, none⟩ = some (.pointer (some ⟨pf, 0, none⟩)) := k1.blk.cell 0
    clear hP j0
    obtain ⟨V, hV⟩ : ∃ V, V = w1.alloc (.cells #[.string N, .string M] 49) := ⟨_, rfl⟩
    have BV : Blk V w1.heap.size 49 #[.string N, .string M] := by rw [hV]; exact Blk.new' _ _ rfl _ _
    have LV : Below w1.heap.size w1 V := by rw [hV]; exact allocW (Below.refl _ _) _
    have kV := k1.belowW LV
    have hq1 : pf ≠ w1.heap.size := fun h1 => Nat.lt_irrefl _ (h1 ▸ k1.fa.blk.lt)
    have hq2 : v.ownBlock ≠ some w1.heap.size := fun h1 => Nat.lt_irrefl _ (Own.lt2 k1.fa.own h1)
    have jV : V.cell? ⟨g, 0, none⟩ = some (.pointer (some ⟨pf, 0, none⟩)) := kV.blk.cell 0
    have L2 := stepW L1 LV
    go_wp2_with fail
    rw [← hV]
    obtain ⟨q, hq⟩ : ∃ q, q = w1.heap.size := ⟨_, rfl⟩
    rw [← hq] at BV hq1 hq2 ⊢
    clear hV j1 k1 LV L1 hq
    obtain ⟨x0, x1, y0, y1⟩ := BV.c2
    have hqV := BV.lt
    have hgV := kV.blk.lt
    have hkn := k.no
    obtain ⟨W3, hW3⟩ : ∃ W3, W3 = (V.alloc (.cells #[.string N, .string M] 49)).drew := ⟨_, rfl⟩
    have L3 : Below V.heap.size V W3 := by rw [hW3]; exact (allocW (Below.refl V.heap.size V) _).drew
    have hr3 : Rd W3 (V.heap.size + 1) 2 (some ⟨V.heap.size, 0, none⟩) 1 (fcells [(N.data.toList, M.data.toList)]) := by
      rw [hW3]; exact (Rd.newM V _ rfl (fcells [(N.data.toList, M.data.toList)]) _ _ 1 2 rfl).below ((Below.refl _ _).drew)
    have hs3 : V.heap.size + 1 ≤ W3.heap.size := by rw [hW3]; simp
    have hne3 : 0 < 1 → ∀ a, (some ⟨V.heap.size, 0, none⟩ : Option Addr) = some a → ¬ FS pf v a.block := fun _ a ha hs => by
      injection ha with ha
      subst ha
      rcases hs with h1 | h1
      · have h1 : V.heap.size = pf := h1
        have := kV.fa.blk.lt; omega
      · exact Nat.lt_irrefl _ (Own.lt2 kV.fa.own (show v.ownBlock = some V.heap.size from h1))
    have k3 := kV.belowW L3
    have hC := fld_Add pf 0 1 1 _ _ v h.flds [(N.data.toList, M.data.toList)] W3 k3.fa hr3 hs3 hne3 (fun f hf => by rw [List.mem_singleton] at hf; subst hf; exact ⟨Nat.le_trans z1 (by decide), Nat.le_trans z2 (by decide)⟩) hl (Nat.zero_le _) (by decide)
    have L4 := stepW L2 L3
    have hg3 : g < W3.heap.size := k3.blk.lt
    have hq3 : q < W3.heap.size := Nat.lt_of_lt_of_le hqV L3.size
    have c0 : W3.cell? ⟨g, 0, none⟩ = some (.pointer (some ⟨pf, 0, none⟩)) := k3.blk.cell 0
    have c1 : W3.cell? ⟨q, 0, none⟩ = some (.string N) := (L3.cell (p := ⟨q, 0, none⟩) hqV).trans x0
    have c2 : W3.cell? ⟨q, 1, none⟩ = some (.string M) := (L3.cell (p := ⟨q, 1, none⟩) hqV).trans x1
    by_cases h24 : 24 ≤ h.flds.length
    · rw [addL_full _ _ _ _ hi h24] at hC
      rw [if_pos h24] at HR
      unfold AddPost addV at hC
      rw [hW3] at hC
      go_region_held3 (fun w' => w'.cell? ⟨g, 0, none⟩ = some (.pointer (some ⟨pf, 0, none⟩)) ∧ w'.cell? ⟨q, 0, none⟩ = some (.string N) ∧ w'.cell? ⟨q, 1, none⟩ = some (.string M))
        (first | go_keep | exact S4)
        (first
          | (go_at_call 84
             refine hC.mono ?_
             rintro e w4 ⟨rfl, ⟨v', hF4, hv4⟩, hfr⟩
             rw [← hW3] at hfr hv4
             have S4 : w4.cell? ⟨g, 0, none⟩ = some (.pointer (some ⟨pf, 0, none⟩)) ∧ w4.cell? ⟨q, 0, none⟩ = some (.string N) ∧ w4.cell? ⟨q, 1, none⟩ = some (.string M) := ⟨(hfr.cell (p := ⟨g, 0, none⟩) hg3 (fun h1 => h1.elim hg hkn)).trans c0, (hfr.cell (p := ⟨q, 0, none⟩) hq3 (fun h1 => h1.elim (fun h2 => hq1 h2.symm) hq2)).trans c1, (hfr.cell (p := ⟨q, 1, none⟩) hq3 (fun h1 => h1.elim (fun h2 => hq1 h2.symm) hq2)).trans c2⟩))
      go_wp2
      go_ret
      exact ⟨by rw [HR.out]; rfl, v', by rw [HR.out]; exact k3.flds hF4 hv4 hfr, fun i h1 => (hv4 i h1).imp id fun h2 => Nat.le_trans L4.size h2, ((Fr.refl _ w).belowW L4).trans hfr fun i h1 => .inl h1⟩
    · rw [addL_one _ _ _ _ hi (by omega), addL_nil] at hC
      rw [if_neg h24] at HR
      unfold AddPost addV at hC
      rw [hW3] at hC
      go_region_held3 (fun w' => w'.cell? ⟨g, 0, none⟩ = some (.pointer (some ⟨pf, 0, none⟩)) ∧ w'.cell? ⟨q, 0, none⟩ = some (.string N) ∧ w'.cell? ⟨q, 1, none⟩ = some (.string M))
        (first | go_keep | exact S4)
        (first
          | (go_at_call 84
             refine hC.mono ?_
             rintro e w4 ⟨rfl, ⟨v', hF4, hv4⟩, hfr⟩
             rw [← hW3] at hfr hv4
             have S4 : w4.cell? ⟨g, 0, none⟩ = some (.pointer (some ⟨pf, 0, none⟩)) ∧ w4.cell? ⟨q, 0, none⟩ = some (.string N) ∧ w4.cell? ⟨q, 1, none⟩ = some (.string M) := ⟨(hfr.cell (p := ⟨g, 0, none⟩) hg3 (fun h1 => h1.elim hg hkn)).trans c0, (hfr.cell (p := ⟨q, 0, none⟩) hq3 (fun h1 => h1.elim (fun h2 => hq1 h2.symm) hq2)).trans c1, (hfr.cell (p := ⟨q, 1, none⟩) hq3 (fun h1 => h1.elim (fun h2 => hq1 h2.symm) hq2)).trans c2⟩))
      go_wp2
      go_ret
      exact ⟨by rw [HR.out]; rfl, v', by rw [HR.out]; exact k3.flds hF4 hv4 hfr, fun i h1 => (hv4 i h1).imp id fun h2 => Nat.le_trans L4.size h2, ((Fr.refl _ w).belowW L4).trans hfr fun i h1 => .inl h1⟩
  · have HR := Lib.hid (show adL h.flds s.data.toList = (400, h.flds) by rw [adL, hP])
    have L2 := L1.alloc (L1.size) (.cells #[.string N, .string M] 49)
    rcases her with rfl | rfl
    all_goals
      go_wp2
      go_ret
      exact ⟨by rw [HR.out]; rfl, v, by rw [HR.out]; exact k.belowW L2, fun k h1 => .inl h1, (Fr.refl _ w).belowW L2⟩
end Go.Proofs.YtmnnbfaaaifcoaaGreatDoor
