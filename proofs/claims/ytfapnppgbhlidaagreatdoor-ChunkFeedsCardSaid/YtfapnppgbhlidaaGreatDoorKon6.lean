/- chunk: New, Body, Trailers; a nil Reader. -/
import Derived.Test.YtfapnppgbhlidaaGreatDoorKon5
namespace Go.Proofs.YtfapnppgbhlidaaGreatDoor
open Go.RowKit
set_option maxRecDepth 100000
set_option maxHeartbeats 2000000

def NewPost (w : World) (e : Ending) (w' : World) : Prop := ∃ g S, e = .returned (.pointer (some ⟨g, 0, none⟩)) ∧ KR w' g S cs0 ∧ (∀ k, S k → w.heap.size ≤ k) ∧ Below w.heap.size w w'
theorem ka_new (w : World) : KA (w.alloc (.cells #[.int .i64 0, .slice none 0 0, .int .i64 0, .slice none 0 0, .slice none 0 0, .int .i64 0, .bool false, .int .i64 0] 74)) w.heap.size (.slice none 0 0) (.slice none 0 0) (.slice none 0 0) cs0 :=
  ⟨Blk.new' _ _ rfl _ _, OB.nil _ _, OB.nil _ _, OF.nil _ _, by simp [Value.ownBlock], by simp [Value.ownBlock], by simp [Value.ownBlock], by simp [Value.ownBlock], by simp [Value.ownBlock], by simp [Value.ownBlock]⟩
theorem foot_new (g k : Nat) (h : foot g (.slice none 0 0) (.slice none 0 0) (.slice none 0 0) k) : k = g := by
  rcases h with h | h | h | h
  · exact h
  all_goals simp [Value.ownBlock] at h
theorem chk_New (w : World) : Calls Tryz.prog 9 #[] w (NewPost w) := by
  have hA := ka_new w
  go_enter Tryz.func9, Tryz.ntmps9
  go_wp2
  go_ret
  exact ⟨_, _, rfl, ⟨_, _, _, rfl, hA⟩, fun k hk => by rw [foot_new _ _ hk]; exact Nat.le_refl _, allocW (Below.refl _ _) _⟩
def BytesPost (w : World) (l : Bs) (e : Ending) (w' : World) : Prop := ∃ v, e = .returned v ∧ OB w' w.heap.size v l ∧ Below w.heap.size w w'
theorem bts_Clone (A : Option Addr) (c B : Nat) (l : Bs) (w : World) (h : Rd w B 1 A l.length (l.map bv)) (hA : A = none → l = []) (hl : l.length ≤ 140737488355328) :
    Calls Tryz.prog 31 #[.slice A l.length c] w (BytesPost w l) := by
  cases A with
  | none =>
    obtain rfl := hA rfl
    refine (Tryz.bytes_Clone_nil 0 c w).mono ?_
    rintro e w' ⟨rfl, rfl⟩
    exact ⟨_, rfl, OB.nil _ _, Below.refl _ _⟩
  | some a =>
    refine (Tryz.bytes_Clone_at a l.length c (l.map fun b => (b.toNat : Int)) w (by simp) hl ?_).mono ?_
    · intro i hi
      obtain ⟨b, hb, -⟩ := drop_at hi
      obtain ⟨g, o, e, -, hc⟩ := h.byte i b hb
      injection e with e
      subst e
      rw [add_lit', hc]
      simp [List.getD, hb]
    · rintro e w' ⟨v, rfl, h1, -, h2⟩
      refine ⟨v, rfl, ?_, h2⟩
      unfold OB
      have h3 := Own.of h1
      rw [List.map_map] at h3
      exact h3
theorem OB.form2 {w : World} {base : Nat} {v : Value} {l : Bs} (h : OB w base v l) : ∃ A c, v = .slice A l.length c ∧ l.length ≤ c ∧ c ≤ maxLen ∧ Rd w w.heap.size 1 A l.length (l.map bv) ∧ (A = none → l = []) := by
  obtain ⟨A, c, h1, h2, h3, h4, h5⟩ := Own.rd h
  exact ⟨A, c, h1, h2, h3, h4, fun ha => List.eq_nil_of_length_eq_zero (by have := h5 ha; omega)⟩
theorem chk_Body (g : Nat) (S : Nat → Prop) (r : CS) (w : World) (h : KR w g S r) (hi : CInv r) :
    Calls Tryz.prog 14 #[.pointer (some ⟨g, 0, none⟩)] w (BytesPost w r.body) := by
  obtain ⟨vl, vb, vt, hS, hKA⟩ := h
  obtain ⟨A, c, rfl, h1, h2, h3, h4⟩ := OB.form2 hKA.ob
  obtain ⟨j0, j1, j2, j3, j4, j5, j6, j7, i0, i1, i2, i3, i4, i5, i6, i7⟩ := Blk.c8 hKA.blk
  have hb := hi.body
  have hb2 : r.body.length ≤ 2048 := by omega
  go_enter Tryz.func14, Tryz.ntmps14
  go_wp2_with fail
  refine (bts_Clone A c _ r.body w h3 h4 (by omega)).mono ?_
  rintro e w' ⟨v, rfl, hv, L⟩
  go_wp2
  go_ret
  exact ⟨_, rfl, hv, L⟩
def FieldsPost (w : World) (l : List Fd) (e : Ending) (w' : World) : Prop := ∃ v, e = .returned v ∧ OF w' w.heap.size v l ∧ Below w.heap.size w w'
theorem chk_Trailers (g : Nat) (S : Nat → Prop) (r : CS) (w : World) (h : KR w g S r) (hi : CInv r) :
    Calls Tryz.prog 16 #[.pointer (some ⟨g, 0, none⟩)] w (FieldsPost w r.trs) := by
  obtain ⟨vl, vb, vt, hS, hKA⟩ := h
  obtain ⟨A, c, rfl, h1, h2, h3⟩ := OF.form hKA.ot
  obtain ⟨j0, j1, j2, j3, j4, j5, j6, j7, i0, i1, i2, i3, i4, i5, i6, i7⟩ := Blk.c8 hKA.blk
  have hb := hi.trs
  go_enter Tryz.func16, Tryz.ntmps16
  go_wp2_with (at_builtin; refine wp_appF rfl _ _ rfl w.heap.size (.slice none 0 0) [] rfl (OF.nil _ _) (Below.refl _ _) A r.trs.length c _ rfl r.trs rfl h3 (by simp; omega) (Nat.le_refl _) ?_; intro v' w2 ho2 hx)
  go_ret
  exact ⟨_, rfl, by simpa using ho2, hx.below (OF.nil w w.heap.size) (Nat.le_refl _) (Nat.le_refl _)⟩
theorem chk_nil (A : Option Addr) (n c : Nat) (w : World) :
    Calls Tryz.prog 11 #[.pointer none, .slice A n c] w fun e w' => e = .returned (.tuple #[.int .i64 0, .bool false, .int .i64 0]) ∧ w = w' := by
  go_enter Tryz.func11, Tryz.ntmps11
  go_wp2
  go_ret3
  exact ⟨rfl, rfl⟩
theorem chk_Body_nil (w : World) :
    Calls Tryz.prog 14 #[.pointer none] w fun e w' => e = .returned (.slice none 0 0) ∧ w = w' := by
  go_enter Tryz.func14, Tryz.ntmps14
  go_wp2
  go_ret
  exact ⟨rfl, rfl⟩
theorem chk_Trailers_nil (w : World) :
    Calls Tryz.prog 16 #[.pointer none] w fun e w' => e = .returned (.slice none 0 0) ∧ w = w' := by
  go_enter Tryz.func16, Tryz.ntmps16
  go_wp2
  go_ret
  exact ⟨rfl, rfl⟩
end Go.Proofs.YtfapnppgbhlidaaGreatDoor
