/- chunk: takes, Feed. -/
import Derived.Test.YtfapnppgbhlidaaGreatDoorKon4
import Derived.Test.YtfapnppgbhlidaaGreatDoorKPl2
import Derived.Deep.QuietTactic
import Derived.BigQuiet
import Derived.OwnWalk
namespace Go.Proofs.YtfapnppgbhlidaaGreatDoor
open Go.RowKit
set_option maxRecDepth 100000
set_option maxHeartbeats 4000000

theorem cByte_line (r : CS) (c : UInt8) (h1 : r.place ≠ 1) (h2 : r.place ≠ 2) : cByte r c = cLine r c := by rw [cByte, if_neg h1, if_neg h2]
theorem chk_inLine (g : Nat) (vl vb vt : Value) (r : CS) (c : UInt8) (w : World) (h : KA w g vl vb vt r) (hi : CInv r) (hp : r.place = 0 ∨ r.place = 3) (hm : ML w) (hh : Hi (foot g vl vb vt)) :
    Calls Tryz.prog 49 #[.pointer (some ⟨g, 0, none⟩), .int .u8 (c.toNat : Int)] w (KPost w g vl vb vt (cLine r c)) := by
  by_cases hc : c = 10
  · subst hc
    by_cases hl : r.line.getLast? = some 13
    · rcases snoc_cases r.line with h0 | ⟨P, x, h0⟩
      · rw [h0] at hl; cases hl
      · obtain rfl : x = 13 := by rw [h0] at hl; simpa using hl
        exact chk_inLine_end g vl vb vt r P w h hi h0 hp hm hh
    · exact chk_inLine_bad g vl vb vt r w h hi hl
  · exact chk_inLine_app g vl vb vt r c w h hi hc
theorem chk_takes (g : Nat) (vl vb vt : Value) (r : CS) (c : UInt8) (w : World) (h : KA w g vl vb vt r) (hi : CInv r) (hm : ML w) (hh : Hi (foot g vl vb vt)) :
    Calls Tryz.prog 29 #[.pointer (some ⟨g, 0, none⟩), .int .u8 (c.toNat : Int)] w (KPost w g vl vb vt (cByte r c)) := by
  by_cases h1 : r.place = 1
  · exact chk_takes_data g vl vb vt r c w h hi h1
  by_cases h2 : r.place = 2
  · exact chk_takes_end g vl vb vt r c w h hi h2
  have hp : r.place = 0 ∨ r.place = 3 := by have := hi.place; omega
  obtain ⟨j0, j1, j2, j3, j4, j5, j6, j7, i0, i1, i2, i3, i4, i5, i6, i7⟩ := Blk.c8 h.blk
  have e1 : ((r.place : Int) == 1) = false := by rw [Bool.eq_false_iff]; intro h0; rw [beq_iff_eq] at h0; omega
  have e2 : ((r.place : Int) == 2) = false := by rw [Bool.eq_false_iff]; intro h0; rw [beq_iff_eq] at h0; omega
  rw [cByte_line r c h1 h2]
  have hC := chk_inLine g vl vb vt r c w h hi hp hm hh
  clear hi hp hm hh h1 h2 h
  go_enter Tryz.func29, Tryz.ntmps29
  go_wp2_with fail
  refine hC.mono ?_
  rintro e w' ⟨rfl, hq⟩
  go_wp2
  go_end0
  exact ⟨rfl, hq⟩
/-- A Reader at block g, with the blocks S. -/
def KR (w : World) (g : Nat) (S : Nat → Prop) (r : CS) : Prop := ∃ vl vb vt, S = foot g vl vb vt ∧ KA w g vl vb vt r
theorem KR.lt {w : World} {g : Nat} {S : Nat → Prop} {r : CS} (h : KR w g S r) {k : Nat} (hk : S k) : k < w.heap.size := by
  obtain ⟨vl, vb, vt, rfl, h⟩ := h
  exact h.foot_lt hk
theorem KR.fr {w w' : World} {g : Nat} {S T : Nat → Prop} {r : CS} (h : KR w g S r) (hf : Fr T w w') (hs : ∀ k, S k → ¬ T k) : KR w' g S r := by
  obtain ⟨vl, vb, vt, rfl, h⟩ := h
  exact ⟨vl, vb, vt, rfl, O3.fr h hf hs⟩
theorem KR.belowW {w w' : World} {g : Nat} {S : Nat → Prop} {r : CS} (h : KR w g S r) (hb : Below w.heap.size w w') : KR w' g S r := by
  obtain ⟨vl, vb, vt, rfl, h⟩ := h
  exact ⟨vl, vb, vt, rfl, O3.belowW h hb⟩
theorem KR.g {w : World} {g : Nat} {S : Nat → Prop} {r : CS} (h : KR w g S r) : S g := by
  obtain ⟨vl, vb, vt, rfl, h⟩ := h
  exact .inl rfl
theorem cFeed_inv : ∀ (p : Bs) (r : CS), CInv r → CInv (cFeed r p).2
  | [], r, h => h
  | c :: p, r, h => by
    cases ho : r.on
    · rw [cFeed_off r _ ho]; exact h
    · rw [cFeed_on r c p ho]; exact cFeed_inv p _ (cByte_inv r c h ho)
def FeedPost (w : World) (g : Nat) (S : Nat → Prop) (q : Nat × CS) (e : Ending) (w' : World) : Prop :=
  e = .returned (.tuple #[.int .i64 (q.1 : Int), .bool q.2.whole, .int .i64 q.2.status]) ∧ ∃ S', KR w' g S' q.2 ∧ Moved S S' w w'
theorem Rd.byte {w : World} {B n : Nat} {A : Option Addr} {l : Bs} (h : Rd w B 1 A n (l.map bv)) (k : Nat) (c : UInt8) (hc : l[k]? = some c) : ∃ b o, A = some ⟨b, o, none⟩ ∧ b < B ∧ w.cell? ⟨b, o + k, none⟩ = some (.int .u8 (c.toNat : Int)) := by
  have hl : l.length = n := by simpa using h.1
  have hk : k < l.length := (List.getElem?_eq_some_iff.1 hc).1
  obtain ⟨b, o, e, hb, hx⟩ := h.2 (by omega)
  exact ⟨b, o, e, hb, hx k _ (by rw [List.getElem?_map, hc]; rfl)⟩
theorem drop_at {l : Bs} {k : Nat} (h : k < l.length) : ∃ c, l[k]? = some c ∧ l.drop k = c :: l.drop (k + 1) := ⟨l[k], by simp [h], List.drop_eq_getElem_cons h⟩
theorem chk_Feed (g : Nat) (S : Nat → Prop) (r : CS) (A : Option Addr) (n c B : Nat) (p : Bs) (w : World) (h : KR w g S r) (hi : CInv r) (hA : Rd w B 1 A n (p.map bv)) (hB : B ≤ w.heap.size)
    (hne : 0 < n → ∀ a, A = some a → ¬ S a.block) (hn : n ≤ 1000000) (hm : ML w) (hh : Hi S) :
    Calls Tryz.prog 11 #[.pointer (some ⟨g, 0, none⟩), .slice A n c] w (FeedPost w g S (cFeed r p)) := by
  have hl : p.length = n := by simpa using hA.1
  go_enter Tryz.func11, Tryz.ntmps11
  go_wp2
  go_loopw [4] (fun i wr => ∃ (k : Nat) (r' : CS) (S' : Nat → Prop), k ≤ n ∧ i = .int .i64 k ∧ KR wr g S' r' ∧ CInv r' ∧ Moved S S' w wr ∧ Hid (cFeed r p = (k + (cFeed r' (p.drop k)).1, (cFeed r' (p.drop k)).2))) (fun i _ => n - (intOf i).toNat)
  case atStart => exact ⟨0, r, S, Nat.zero_le _, rfl, h, hi, Moved.refl _ _, Lib.hid (by simp)⟩
  case round =>
    obtain ⟨k, r', S', hk, rfl, hK, hI, hM, H⟩ := hrel
    have hm2 := hm.fr hM.fr hh
    have hh2 := hh.moved hm hM
    have hA2 := hA.frm hB hM.fr hne
    obtain ⟨vl, vb, vt, hS, hKA⟩ := hK
    obtain ⟨j0, j1, j2, j3, j4, j5, j6, j7, i0, i1, i2, i3, i4, i5, i6, i7⟩ := Blk.c8 hKA.blk
    by_cases hlt : k < n
    · obtain ⟨x, hx, hd⟩ := drop_at (l := p) (k := k) (by omega)
      cases ho : r'.on
      · have HR := Lib.hid (show cFeed r p = (k, r') by rw [H.out, cFeed_off _ _ ho]; rfl)
        have hx0 : r'.whole = true ∨ (r'.whole = false ∧ (r'.status == 0) = false) := by
          unfold CS.on at ho
          cases hw : r'.whole
          · rw [hw] at ho
            right
            refine ⟨rfl, ?_⟩
            rw [Bool.eq_false_iff]; intro h0; rw [beq_iff_eq] at h0; rw [h0] at ho; cases ho
          · exact .inl rfl
        clear hd H hx ho
        rcases hx0 with hw | ⟨hw, hst⟩
        · rw [hw] at j6
          go_wp2
          go_quiet (fail)
          go_wp2
          go_ret3
          exact ⟨by rw [HR.out]; simp only; rw [hw]; rfl, S', by rw [HR.out]; exact KR.belowW ⟨vl, vb, vt, hS, hKA⟩ (below_drewN' (Below.refl _ _) _), hM.drewN _⟩
        · rw [hw] at j6
          go_wp2
          go_quiet (fail)
          go_wp2
          go_ret3
          exact ⟨by rw [HR.out]; simp only; rw [hw]; rfl, S', by rw [HR.out]; exact KR.belowW ⟨vl, vb, vt, hS, hKA⟩ (below_drewN' (Below.refl _ _) _), hM.drewN _⟩
      · obtain ⟨hw, hst⟩ := CS.on_parts _ ho
        have HR := Lib.hid (show cFeed r p = ((k + 1) + (cFeed (cByte r' x) (p.drop (k + 1))).1, (cFeed (cByte r' x) (p.drop (k + 1))).2) by rw [H.out, hd, cFeed_on _ _ _ ho]; exact Prod.ext (by simp only; omega) rfl)
        have hI2 := cByte_inv r' x hI ho
        obtain ⟨b, o, rfl, hb, hcell⟩ := hA2.byte k x hx
        rw [hw] at j6
        rw [hst] at j7
        clear hx hd H ho
        go_wp2_with fail
        subst hS
        refine (chk_takes g vl vb vt r' x wr hKA hI hm2 hh2).mono ?_
        rintro e w1 ⟨rfl, vl', vb', vt', hKA', hM'⟩
        go_wp2_with fail
        go_roundw
        case rel => exact ⟨k + 1, cByte r' x, _, by omega, by go_num, ⟨_, _, _, rfl, hKA'⟩, hI2, hM.trans hM', HR⟩
        case measure => simp [intOf]; omega
    · have HR := Lib.hid (show cFeed r p = (k, r') by rw [H.out, List.drop_of_length_le (by omega)]; rfl)
      clear H
      go_wp2
      go_quiet (fail)
      go_wp2
      go_ret3
      exact ⟨by rw [HR.out]; rfl, S', by rw [HR.out]; exact KR.belowW ⟨vl, vb, vt, hS, hKA⟩ (below_drewN' (Below.refl _ _) _), hM.drewN _⟩
end Go.Proofs.YtfapnppgbhlidaaGreatDoor
