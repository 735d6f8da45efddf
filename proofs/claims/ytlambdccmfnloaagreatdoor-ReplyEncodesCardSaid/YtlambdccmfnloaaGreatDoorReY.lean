/- reply: value, name. -/
import Derived.Test.YtlambdccmfnloaaGreatDoorReX
namespace Go.Proofs.YtlambdccmfnloaaGreatDoor
open Go.RowKit
set_option maxRecDepth 100000
set_option maxHeartbeats 4000000

theorem split_at' (p : UInt8 → Bool) (r : Bs) : r = r.takeWhile p ++ r.dropWhile p := (List.takeWhile_append_dropWhile).symm
theorem trimLeft_eq (l : Bs) : Lib.trimLeftS l [9, 32] = trimF l := by
  have e : (fun b : UInt8 => ([9, 32] : Bs).contains b) = isB := by
    funext b
    cases h1 : (b == 9) <;> cases h2 : (b == 32) <;> simp [isB, List.contains, List.elem, h1, h2]
  unfold Lib.trimLeftS trimF
  rw [e]
theorem span_all (p : UInt8 → Bool) (n : Nat) (r : Bs) (h : r.length ≤ n) : spanL p n r = r.takeWhile p := by rw [spanL, List.take_of_length_le h]
theorem drop_span (p : UInt8 → Bool) (r : Bs) : r.drop (r.takeWhile p).length = r.dropWhile p := by
  have h := congrArg (List.drop (r.takeWhile p).length) (split_at' p r)
  exact h.trans List.drop_left
theorem val_bad1 (r : Bs) (h : trimF (r.takeWhile vlB) ≠ r.takeWhile vlB) : valL r = .bad := by rw [valL, if_pos h]
theorem val_short (r : Bs) (h : trimF (r.takeWhile vlB) = r.takeWhile vlB) (h2 : r.dropWhile vlB = []) : valL r = .short := by rw [valL, if_neg (by simpa using h), if_pos h2]
theorem val_bad2 (r : Bs) (h : trimF (r.takeWhile vlB) = r.takeWhile vlB) (h2 : r.dropWhile vlB ≠ []) (h3 : trimL (r.takeWhile vlB) ≠ r.takeWhile vlB) : valL r = .bad := by rw [valL, if_neg (by simpa using h), if_neg h2, if_pos h3]
theorem val_go (r : Bs) (h : trimF (r.takeWhile vlB) = r.takeWhile vlB) (h2 : r.dropWhile vlB ≠ []) (h3 : trimL (r.takeWhile vlB) = r.takeWhile vlB) : valL r = (textL crlf (r.dropWhile vlB)).bind fun _ t => .ok (r.takeWhile vlB) t := by rw [valL, if_neg (by simpa using h), if_neg h2, if_neg (by simpa using h3)]
theorem rd_value {w : World} {g : Nat} {P : Bs} {hd : Bool} {s : RSt} (q : RdT w g P hd s) (hP : P.length ≤ 1000000) :
    Calls Tryz.prog 153 #[.pointer (some ⟨g, 0, none⟩)] w fun e w' => RPost w g P hd (valL s.r) (fun a => sv a) (fun _ r => { s with r := r }) e w' ∧ FrA g w w' := by
  have hgl := q.lt
  have hg : g ≤ w.heap.size := Nat.le_of_lt q.lt
  have hwh := rd_while 190 vlB is_value P.length q hP hP
  obtain ⟨x, k, q⟩ := q
  obtain ⟨j0, j1, -⟩ := q.c8
  have hsp : spanL vlB P.length s.r = s.r.takeWhile vlB := span_all vlB _ _ (by have := q.at_; omega)
  rw [hsp] at hwh
  have hdr := drop_span vlB s.r
  have hal : (s.r.takeWhile vlB).length ≤ 1000000 := by
    have h1 := (List.takeWhile_sublist vlB (l := s.r)).length_le
    have := q.at_; omega
  have hV1 := Lib.hid (val_bad1 s.r)
  have hV2 := Lib.hid (val_short s.r)
  have hV3 := Lib.hid (val_bad2 s.r)
  have hV4 := Lib.hid (val_go s.r)
  generalize s.r.takeWhile vlB = a at *
  generalize s.r.dropWhile vlB = b at *
  have HD := Lib.hid hdr
  clear hsp hdr
  have htl := fun w => Any.strings_TrimLeft_laid Tryz.lays161 (by kernel_rfl) ⟨a.toArray⟩ ⟨#[9, 32]⟩ w (by decide) (ascii_of_all (by decide))
  simp only [trimLeft_eq] at htl
  go_enter Tryz.func153, Tryz.ntmps153
  go_wp2_with fail
  refine hwh.mono ?_
  rintro e w1 ⟨rfl, q1, L1⟩
  go_wp2_with fail
  refine (htl w1).mono ?_
  rintro e w2 ⟨rfl, L2⟩
  have hb2 : FrA g w w2 := L1.belowW L2 hgl
  have q2 := q1.belowW L2
  have hat3 := fun w => asc_Trim ⟨a.toArray⟩ w (by show a.toArray.size ≤ _; unfold maxLen; simp; omega)
  dsimp only at hat3
  clear hwh htl L1 L2 q1 j0 j1
  by_cases h1 : trimF a = a
  · rw [h1]
    have hV2 := Lib.hid (hV2.out h1)
    have hV3 := Lib.hid (hV3.out h1)
    have hV4 := Lib.hid (hV4.out h1)
    clear h1 hV1
    obtain ⟨x2, k2, q3⟩ := q2
    have hat := q3.at_
    simp only [HD.out] at hat
    obtain ⟨j0, j1, -⟩ := q3.c8
    have hbm := fun m => hb2.drewN m
    rcases b with _ | ⟨c, b⟩
    · have hV := Lib.hid (hV2.out rfl)
      obtain rfl : k2 = P.length := by simpa using hat
      clear hat
      go_wp2_with fail
      go_quiet (fail)
      go_wp2_with fail
      refine (rd_fails 12 _).mono ?_
      rintro e w3 ⟨rfl, rfl⟩
      exact ⟨rfl, rpost_short hV.out (fr_below hg (hbm _)), hbm _⟩
    · have hV3 := Lib.hid (hV3.out (by simp))
      have hV4 := Lib.hid (hV4.out (by simp))
      have hne : ¬ k2 = P.length := by simp at hat; omega
      have q4 : ∀ m, RdT (w2.drewN m) g P hd { s with r := c :: b } := fun m => by rw [← HD.out]; exact ⟨x2, k2, q3.drewN m⟩
      clear hat hV2
      go_wp2_with fail
      go_quiet (fail)
      have hb3 := hbm nq
      have q5 := q4 nq
      obtain ⟨W, hW⟩ : ∃ W, W = w2.drewN nq := ⟨_, rfl⟩
      rw [← hW] at hb3 q5 ⊢
      clear hW hbm q4 q3 j0 j1
      go_wp2_with fail
      refine (hat3 W).mono ?_
      rintro e w3 ⟨rfl, L3⟩
      have hb4 : FrA g w w3 := hb3.belowW L3 hgl
      have q6 := q5.belowW L3
      by_cases h2 : trimL a = a
      · rw [h2]
        have hV := Lib.hid (hV4.out h2)
        clear h2 hV3 hV4 hat3
        go_wp2_with fail
        refine (rd_textF crlf q6 hP (by decide)).mono ?_
        rintro e w4 ⟨h4, F4⟩
        have hb5 : FrA g w w4 := hb4.trans F4
        rcases rpost_out h4 with ⟨hx, rfl, L⟩ | ⟨hx, rfl, L⟩ | ⟨_, r7, hx, rfl, q7, L⟩
        · exact ⟨rfl, rpost_short (by rw [hV.out, hx.out]; rfl) (fr_below hg hb5), hb5⟩
        · exact ⟨rfl, rpost_bad (by rw [hV.out, hx.out]; rfl) (fr_below hg hb5), hb5⟩
        · go_wp2
          go_ret
          exact ⟨rpost_ok (by rw [hV.out, hx.out]; rfl) rfl (fr_below hg hb5) q7, hb5⟩
      · have hV := Lib.hid (hV3.out h2)
        generalize trimL a = a2 at *
        have h3 : (a2 == a) = false := by simpa using h2
        have h4 : ¬ (a2.toArray = a.toArray) := by simpa using h2
        go_wp2_with fail
        refine (rd_fails 8 _).mono ?_
        rintro e w3 ⟨rfl, rfl⟩
        exact ⟨rfl, rpost_bad hV.out (fr_below hg hb4), hb4⟩
  · have hV := Lib.hid (hV1.out h1)
    generalize trimF a = a2 at *
    have h3 : (a2 == a) = false := by simpa using h1
    have h4 : ¬ (a2.toArray = a.toArray) := by simpa using h1
    go_wp2_with fail
    refine (rd_fails 8 _).mono ?_
    rintro e w3 ⟨rfl, rfl⟩
    exact ⟨rfl, rpost_bad hV.out (fr_below hg hb2), hb2⟩
end Go.Proofs.YtlambdccmfnloaaGreatDoor
