/- framing: coded, length; slices.Index and slices.Contains of texts. -/
import Derived.Test.YtmnnbfaaaifcoaaGreatDoorFrm2
namespace Go.Proofs.YtmnnbfaaaifcoaaGreatDoor
open Go.RowKit
set_option maxRecDepth 100000
set_option maxHeartbeats 2000000

def idxL (x : Bs) : List Bs → Nat → Int
  | [], _ => -1
  | z :: zs, i => if z = x then i else idxL x zs (i + 1)
theorem mk_eq (z : Bs) (x : ByteArray) : ((⟨z.toArray⟩ : ByteArray) = x) ↔ z = x.data.toList := by
  constructor
  · rintro rfl; rfl
  · intro h; exact str_ext h
theorem idxL_lib (x : ByteArray) : ∀ (t : List Bs) (i : Nat), Lib.idxFromS (t.map fun l => (⟨l.toArray⟩ : ByteArray)) x i = idxL x.data.toList t i
  | [], _ => rfl
  | z :: t, i => by
    rw [List.map_cons, Lib.idxFromS, idxL]
    by_cases h : z = x.data.toList
    · rw [if_pos h, if_pos ((mk_eq z x).2 h)]
    · rw [if_neg h, if_neg (fun e => h ((mk_eq z x).1 e)), idxL_lib x t (i + 1)]
theorem idxL_spec (x : Bs) : ∀ (t : List Bs) (i : Nat), (idxL x t i = -1 ∧ x ∉ t) ∨ ∃ k, k < t.length ∧ idxL x t i = ((i + k : Nat) : Int) ∧ t[k]? = some x ∧ x ∉ t.take k
  | [], i => .inl ⟨rfl, by simp⟩
  | z :: t, i => by
    rw [idxL]
    by_cases h : z = x
    · rw [if_pos h]
      exact .inr ⟨0, by simp, by simp, by simp [h], by simp⟩
    · rw [if_neg h]
      rcases idxL_spec x t (i + 1) with ⟨h1, h2⟩ | ⟨k, h1, h2, h3, h4⟩
      · exact .inl ⟨h1, by simp [h2, Ne.symm h]⟩
      · refine .inr ⟨k + 1, by simp; omega, by rw [h2]; congr 1; omega, by simpa using h3, by simp [h4, Ne.symm h]⟩
theorem cod_idx (t : List Bs) : (codT t = 400 ∧ (idxL chunkedB t 0 < 0 ∨ (0 ≤ idxL chunkedB t 0 ∧ idxL chunkedB t 0 ≠ (t.length : Int) - 1))) ∨ (codT t = 501 ∧ 0 < idxL chunkedB t 0 ∧ idxL chunkedB t 0 = (t.length : Int) - 1) ∨ (codT t = 0 ∧ idxL chunkedB t 0 = 0 ∧ (t.length : Int) - 1 = 0) := by
  rcases idxL_spec chunkedB t 0 with ⟨h1, h2⟩ | ⟨k, h1, h2, h3, h4⟩
  · refine .inl ⟨?_, .inl (by omega)⟩
    rw [codT, if_neg]
    intro h
    exact h2 (List.mem_of_getLast? h)
  · rw [Nat.zero_add] at h2
    rw [h2]
    by_cases hk : k = t.length - 1
    · have hl : t.getLast? = some chunkedB := by rw [List.getLast?_eq_getElem?, ← hk]; exact h3
      have hd : chunkedB ∉ t.dropLast := by rw [List.dropLast_eq_take, ← hk]; exact h4
      by_cases h0 : k = 0
      · refine .inr (.inr ⟨?_, by omega, by omega⟩)
        rw [codT, if_pos hl, if_neg hd, if_pos (by omega)]
      · refine .inr (.inl ⟨?_, by omega, by omega⟩)
        rw [codT, if_pos hl, if_neg hd, if_neg (by omega)]
    · refine .inl ⟨?_, .inr ⟨by omega, by omega⟩⟩
      rw [codT]
      by_cases hl : t.getLast? = some chunkedB
      · rw [if_pos hl, if_pos]
        rw [List.dropLast_eq_take]
        have : (t.take (t.length - 1))[k]? = some chunkedB := by rw [List.getElem?_take_of_lt (by omega)]; exact h3
        exact List.mem_of_getElem? this
      · rw [if_neg hl]
theorem rd_getD {w : World} {B : Nat} {A : Option Addr} {t : List Bs} (hA : Rd w B 1 A t.length (t.map tv)) (h0 : 0 < t.length) : ∃ b o, A = some ⟨b, o, none⟩ ∧ ∀ j, j < (t.map fun l => (⟨l.toArray⟩ : ByteArray)).length → w.cell? ⟨b, o + j, none⟩ = some (.string ((t.map fun l => (⟨l.toArray⟩ : ByteArray)).getD j ByteArray.empty)) := by
  obtain ⟨b, o, e, hb, hc⟩ := hA.2 h0
  refine ⟨b, o, e, fun j hj => ?_⟩
  rw [List.length_map] at hj
  rw [hc j (tv t[j]) (by rw [List.getElem?_map, List.getElem?_eq_getElem hj]; rfl)]
  rw [List.getD_eq_getElem?_getD, List.getElem?_map, List.getElem?_eq_getElem hj]
  rfl
theorem lib_Index (A : Option Addr) (c B : Nat) (t : List Bs) (x : ByteArray) (w : World) (hA : Rd w B 1 A t.length (t.map tv)) (hn : t.length ≤ 9223372036854775807) :
    Calls Tryz.prog 114 #[.slice A t.length c, .string x] w fun e w' => e = .returned (.int .i64 (idxL x.data.toList t 0)) ∧ w = w' := by
  rcases Nat.eq_zero_or_pos t.length with h0 | h0
  · obtain rfl : t = [] := List.eq_nil_of_length_eq_zero h0
    refine (Tryz.slices_Index_string_empty A c x w).mono ?_
    rintro e w' ⟨rfl, rfl⟩
    exact ⟨rfl, rfl⟩
  · obtain ⟨b, o, rfl, hc⟩ := rd_getD hA h0
    refine (Tryz.slices_Index_string b o t.length c (t.map fun l => (⟨l.toArray⟩ : ByteArray)) x w (by simp) hn hc).mono ?_
    rintro e w' ⟨rfl, rfl⟩
    rw [List.take_of_length_le (by simp), Lib.idxOfS, idxL_lib]
    exact ⟨rfl, rfl⟩
theorem lib_Contains (A : Option Addr) (c B : Nat) (t : List Bs) (x : ByteArray) (w : World) (hA : Rd w B 1 A t.length (t.map tv)) (hn : t.length ≤ 9223372036854775807) :
    Calls Tryz.prog 80 #[.slice A t.length c, .string x] w fun e w' => e = .returned (.bool (t.contains x.data.toList)) ∧ w = w' := by
  rcases Nat.eq_zero_or_pos t.length with h0 | h0
  · obtain rfl : t = [] := List.eq_nil_of_length_eq_zero h0
    refine (Tryz.slices_Contains_string_empty A c x w).mono ?_
    rintro e w' ⟨rfl, rfl⟩
    exact ⟨rfl, rfl⟩
  · obtain ⟨b, o, rfl, hc⟩ := rd_getD hA h0
    refine (Tryz.slices_Contains_string b o t.length c (t.map fun l => (⟨l.toArray⟩ : ByteArray)) x w (by simp) hn hc).mono ?_
    rintro e w' ⟨rfl, rfl⟩
    rw [List.take_of_length_le (by simp)]
    have : Lib.containsS (t.map fun l => (⟨l.toArray⟩ : ByteArray)) x = t.contains x.data.toList := by
      rw [Bool.eq_iff_iff, Lib.containsS_iff, List.contains_iff_mem, List.mem_map]
      constructor
      · rintro ⟨l, h1, h2⟩; rw [← (mk_eq l x).1 h2]; exact h1
      · intro h; exact ⟨_, h, (mk_eq _ x).2 rfl⟩
    rw [this]
    exact ⟨rfl, rfl⟩
/-- A status that is told by a panic. -/
def StPost (w : World) (s : Int) (v : Value) (e : Ending) (w' : World) : Prop :=
  ((s = 0 ∧ e = .returned v) ∨ (s ≠ 0 ∧ e = .panicked (refusal s))) ∧ Below w.heap.size w w'
theorem frm_coded (A : Option Addr) (c B : Nat) (t : List Bs) (w : World) (hA : Rd w B 1 A t.length (t.map tv)) (hn : t.length ≤ 9223372036854775807) :
    Calls Tryz.prog 77 #[.slice A t.length c] w (StPost w (codT t) (.tuple #[])) := by
  have hcd := cod_idx t
  have hz : 0 ≤ (t.length : Int) := by omega
  have hI := lib_Index A c B t ⟨chunkedB.toArray⟩ w hA hn
  rw [show (⟨chunkedB.toArray⟩ : ByteArray).data.toList = chunkedB from rfl] at hI
  generalize codT t = C at *
  generalize idxL chunkedB t 0 = I at *
  rcases hcd with ⟨rfl, h | ⟨h1, h2⟩⟩ | ⟨rfl, h1, h2⟩ | ⟨rfl, rfl, h2⟩
  · go_enter Tryz.func77, Tryz.ntmps77
    go_wp2_with fail
    refine hI.mono ?_
    rintro e w' ⟨rfl, rfl⟩
    go_wp2_with fail
    refine (frm_must0 400 w).mono ?_
    rintro e w3 ⟨rfl, rfl⟩
    exact ⟨rfl, .inr ⟨by decide, rfl⟩, Below.refl _ _⟩
  · have h3 : (I == (t.length : Int) - 1) = false := by rw [Bool.eq_false_iff]; intro h; exact h2 (beq_iff_eq.1 h)
    have q1 : IntKind.i64.wrap ((t.length : Int) - 1) = (t.length : Int) - 1 := IntWalk.i64_in _ (by omega)
    go_enter Tryz.func77, Tryz.ntmps77
    go_wp2_with fail
    refine hI.mono ?_
    rintro e w' ⟨rfl, rfl⟩
    go_wp2_with fail
    refine (frm_must0 400 w).mono ?_
    rintro e w3 ⟨rfl, rfl⟩
    exact ⟨rfl, .inr ⟨by decide, rfl⟩, Below.refl _ _⟩
  · have h3 : (I == (t.length : Int) - 1) = true := by rw [beq_iff_eq]; exact h2
    have h4 : (I == 0) = false := by rw [Bool.eq_false_iff]; intro h; have := beq_iff_eq.1 h; omega
    have q1 : IntKind.i64.wrap ((t.length : Int) - 1) = (t.length : Int) - 1 := IntWalk.i64_in _ (by omega)
    have h5 : 0 ≤ I := by omega
    clear h2
    go_enter Tryz.func77, Tryz.ntmps77
    go_wp2_with fail
    refine hI.mono ?_
    rintro e w' ⟨rfl, rfl⟩
    go_wp2_with fail
    refine (frm_must1 400 w).mono ?_
    rintro e w3 ⟨rfl, rfl⟩
    go_wp2_with fail
    refine (frm_must0 501 w).mono ?_
    rintro e w3 ⟨rfl, rfl⟩
    exact ⟨rfl, .inr ⟨by decide, rfl⟩, Below.refl _ _⟩
  · have h3 : ((0 : Int) == (t.length : Int) - 1) = true := by rw [beq_iff_eq]; omega
    have q1 : IntKind.i64.wrap ((t.length : Int) - 1) = (t.length : Int) - 1 := IntWalk.i64_in _ (by omega)
    clear h2
    go_enter Tryz.func77, Tryz.ntmps77
    go_wp2_with fail
    refine hI.mono ?_
    rintro e w' ⟨rfl, rfl⟩
    go_wp2_with fail
    refine (frm_must1 400 w).mono ?_
    rintro e w3 ⟨rfl, rfl⟩
    go_wp2_with fail
    refine (frm_must1 501 w).mono ?_
    rintro e w3 ⟨rfl, rfl⟩
    go_wp2
    go_end0
    exact ⟨.inl ⟨rfl, rfl⟩, Below.refl _ _⟩
end Go.Proofs.YtmnnbfaaaifcoaaGreatDoor
