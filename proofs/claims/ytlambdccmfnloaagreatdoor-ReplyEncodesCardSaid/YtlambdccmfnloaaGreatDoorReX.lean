/- reply: ends, value. -/
import Derived.Test.YtlambdccmfnloaaGreatDoorReO
import Derived.Shelf.Strings.SlTrimAscii
namespace Go.Proofs.YtlambdccmfnloaaGreatDoor
open Go.RowKit
set_option maxRecDepth 100000
set_option maxHeartbeats 4000000

theorem rpost_out {α : Type} {w : World} {g : Nat} {P : Bs} {hd : Bool} {x : R3 α} {val : α → Value} {next : α → Bs → RSt} {e : Ending} {w' : World} (h : RPost w g P hd x val next e w') :
    (Hid (x = .short) ∧ e = .panicked (failV 12) ∧ Below g w w') ∨ (Hid (x = .bad) ∧ e = .panicked (failV 8) ∧ Below g w w') ∨ ∃ a r, Hid (x = .ok a r) ∧ e = .returned (val a) ∧ RdT w' g P hd (next a r) ∧ Below g w w' := by
  obtain ⟨hb, h⟩ := h
  cases x with
  | short => exact .inl ⟨rfl, h, hb⟩
  | bad => exact .inr (.inl ⟨rfl, h, hb⟩)
  | ok a r => exact .inr (.inr ⟨a, r, rfl, h.1, h.2, hb⟩)
theorem rd_textL (T : Bs) {w : World} {g : Nat} {P : Bs} {hd : Bool} {s : RSt} (q : RdT w g P hd s) (hP : P.length ≤ 1000000) (hT : T.length ≤ 1000) :
    Calls Tryz.prog 101 #[.pointer (some ⟨g, 0, none⟩), sv T] w (RPost w g P hd (textL T s.r) (fun _ => .tuple #[]) (fun _ r => { s with r := r })) :=
  (rd_text ⟨T.toArray⟩ q hP (by show T.toArray.size ≤ 1000; simpa using hT)).mono fun _ _ h => h.1
theorem rd_textF (T : Bs) {w : World} {g : Nat} {P : Bs} {hd : Bool} {s : RSt} (q : RdT w g P hd s) (hP : P.length ≤ 1000000) (hT : T.length ≤ 1000) :
    Calls Tryz.prog 101 #[.pointer (some ⟨g, 0, none⟩), sv T] w fun e w' => RPost w g P hd (textL T s.r) (fun _ => .tuple #[]) (fun _ r => { s with r := r }) e w' ∧ FrA g w w' :=
  rd_text ⟨T.toArray⟩ q hP (by show T.toArray.size ≤ 1000; simpa using hT)
theorem RdT.belowW {w w' : World} {g : Nat} {P : Bs} {hd : Bool} {s : RSt} (q : RdT w g P hd s) (hb : Below w.heap.size w w') : RdT w' g P hd s := by
  obtain ⟨x, k, q⟩ := q
  exact ⟨x, k, q.belowW hb⟩
theorem RdT.drewN {w : World} {g : Nat} {P : Bs} {hd : Bool} {s : RSt} (q : RdT w g P hd s) (n : Nat) : RdT (w.drewN n) g P hd s := by
  obtain ⟨x, k, q⟩ := q
  exact ⟨x, k, q.drewN n⟩
theorem RdT.lt {w : World} {g : Nat} {P : Bs} {hd : Bool} {s : RSt} (q : RdT w g P hd s) : g < w.heap.size := by
  obtain ⟨x, k, q⟩ := q
  exact q.lt
theorem RdT.fin {w : World} {g : Nat} {P : Bs} {hd : Bool} {s : RSt} (q : RdT w g P hd s) : RdT (w.setCell ⟨g, 7, none⟩ (.bool true)) g P hd { s with fin := true } := by
  obtain ⟨x, k, q⟩ := q
  exact ⟨x, k, RM.of (q.rk.set_ 7 (.bool true)) (by simp [rCells]) q.cap q.at_ q.rest q.nf q.nd q.nq q.st0⟩
theorem RdT.c7 {w : World} {g : Nat} {P : Bs} {hd : Bool} {s : RSt} (q : RdT w g P hd s) : w.cell? ⟨g, 7, none⟩ = some (.bool s.fin) ∧ w.frozen? ⟨g, 7, none⟩ = false := by
  obtain ⟨x, k, q⟩ := q
  obtain ⟨-, -, -, -, -, -, -, j7, -, -, -, -, -, -, -, i7⟩ := q.c8
  exact ⟨j7, i7⟩
theorem byte_ne (c d : UInt8) (h : c ≠ d) : ((c.toNat : Int) == (d.toNat : Int)) = false := by
  rw [Bool.eq_false_iff]
  intro h0
  exact h (UInt8.toNat_inj.1 (by have := beq_iff_eq.1 h0; omega))

theorem ends_nl (ch : Bool) (r : Bs) : endsL ch (13 :: r) = (textL crlf (13 :: r)).bind fun _ t => .ok false t := by rw [endsL, if_pos rfl]
theorem ends_cn (ch : Bool) (c : UInt8) (r : Bs) (h : c ≠ 13) : endsL ch (c :: r) = (textL (coN ++ csB) (c :: r)).bind fun _ t => connT ch (fun b t => (textL crlf t).bind fun _ t => .ok b t) t := by rw [endsL, if_neg h]
theorem rd_ends (ch : Bool) {w : World} {g : Nat} {P : Bs} {hd : Bool} {s : RSt} (q : RdT w g P hd s) (hP : P.length ≤ 1000000) (hfin : s.fin = false) :
    Calls Tryz.prog 102 #[.pointer (some ⟨g, 0, none⟩), .bool ch] w (RPost w g P hd (endsL ch s.r) (fun _ => .tuple #[]) (fun b r => { s with r := r, fin := b })) := by
  have HFin := Lib.hid hfin
  clear hfin
  have hT := fun (T : Bs) (r : Bs) (w : World) (q : RdT w g P hd { s with r := r }) (hT : T.length ≤ 1000) => rd_textL T q hP hT
  obtain ⟨x, k, q⟩ := q
  have hnx := rd_next q hP
  rcases hr : s.r with _ | ⟨c, r⟩
  · rw [hr] at hnx
    go_enter Tryz.func102, Tryz.ntmps102
    go_wp2_with fail
    refine hnx.mono ?_
    rintro e w1 ⟨rfl, m, rfl⟩
    exact ⟨rfl, rpost_short rfl (below_drewN' (Below.refl _ _) _)⟩
  · rw [hr] at hnx
    have q0 : RdT w g P hd { s with r := c :: r } := by rw [← hr]; exact ⟨x, k, q⟩
    have hb0 := fun m => below_drewN' (Below.refl g w) m
    clear hr q
    by_cases hc : c = 13
    · subst hc
      have HX := Lib.hid (ends_nl ch r)
      go_enter Tryz.func102, Tryz.ntmps102
      go_wp2_with fail
      refine hnx.mono ?_
      rintro e w1 ⟨rfl, m, rfl⟩
      go_wp2_with fail
      refine (hT crlf (13 :: r) _ (q0.drewN m) (by decide)).mono ?_
      intro e w2 h2
      rcases rpost_out h2 with ⟨hx, rfl, L⟩ | ⟨hx, rfl, L⟩ | ⟨_, r2, hx, rfl, q2, L⟩
      · exact ⟨rfl, rpost_short (by rw [HX.out, hx.out]; rfl) ((hb0 m).trans L)⟩
      · exact ⟨rfl, rpost_bad (by rw [HX.out, hx.out]; rfl) ((hb0 m).trans L)⟩
      · go_wp2
        go_end0
        exact rpost_ok (by rw [HX.out, hx.out]; rfl) rfl ((hb0 m).trans L) (by rw [show ({ s with r := r2, fin := false } : RSt) = { s with r := r2 } by rw [← HFin.out]]; exact q2)
    · have HX := Lib.hid (ends_cn ch c r hc)
      have hcb := byte_ne c 13 hc
      rw [show ((13 : UInt8).toNat : Int) = 13 from rfl] at hcb
      have hcb2 : ¬ (c.toNat : Int) = 13 := by simpa using hcb
      clear hc
      go_enter Tryz.func102, Tryz.ntmps102
      go_wp2_with fail
      refine hnx.mono ?_
      rintro e w1 ⟨rfl, m, rfl⟩
      go_wp2_with fail
      refine (hT (coN ++ csB) (c :: r) _ (q0.drewN m) (by decide)).mono ?_
      intro e w2 h2
      rcases rpost_out h2 with ⟨hx, rfl, L⟩ | ⟨hx, rfl, L⟩ | ⟨_, r2, hx, rfl, q2, L⟩
      · exact ⟨rfl, rpost_short (by rw [HX.out, hx.out]; rfl) ((hb0 m).trans L)⟩
      · exact ⟨rfl, rpost_bad (by rw [HX.out, hx.out]; rfl) ((hb0 m).trans L)⟩
      · have HY := Lib.hid (show endsL ch (c :: r) = connT ch (fun b t => (textL crlf t).bind fun _ t => .ok b t) r2 by rw [HX.out, hx.out]; rfl)
        have hb2 := (hb0 m).trans L
        clear HX hx hb0 h2 hnx L
        obtain ⟨x2, k2, q3⟩ := q2
        have hnx := rd_next q3 hP
        rcases r2 with _ | ⟨d, r2⟩
        · go_wp2_with fail
          refine hnx.mono ?_
          rintro e w3 ⟨rfl, m3, rfl⟩
          exact ⟨rfl, rpost_short HY.out (below_drewN' hb2 _)⟩
        · have q4 : RdT w2 g P hd { s with r := d :: r2 } := ⟨x2, k2, q3⟩
          have hb3 := fun m => below_drewN' hb2 m
          clear q3 q0
          by_cases hd' : d = 107 ∧ ch = false
          · have HZ := Lib.hid (show endsL ch (c :: r) = (textL keepL (d :: r2)).bind fun _ t => (textL crlf t).bind fun _ t => .ok false t by rw [HY.out, connT, if_pos hd'])
            obtain ⟨rfl, rfl⟩ := hd'
            go_wp2_with fail
            refine hnx.mono ?_
            rintro e w3 ⟨rfl, m3, rfl⟩
            go_wp2_with fail
            refine (hT keepL (107 :: r2) _ (q4.drewN m3) (by decide)).mono ?_
            intro e w4 h4
            rcases rpost_out h4 with ⟨hx, rfl, L⟩ | ⟨hx, rfl, L⟩ | ⟨_, r5, hx, rfl, q5, L⟩
            · exact ⟨rfl, rpost_short (by rw [HZ.out, hx.out]; rfl) ((hb3 m3).trans L)⟩
            · exact ⟨rfl, rpost_bad (by rw [HZ.out, hx.out]; rfl) ((hb3 m3).trans L)⟩
            · have HW := Lib.hid (show endsL false (c :: r) = (textL crlf r5).bind fun _ t => .ok false t by rw [HZ.out, hx.out]; rfl)
              have hb5 := (hb3 m3).trans L
              clear HZ hx
              go_wp2_with fail
              refine (hT crlf r5 _ q5 (by decide)).mono ?_
              intro e w6 h6
              rcases rpost_out h6 with ⟨hx, rfl, L⟩ | ⟨hx, rfl, L⟩ | ⟨_, r7, hx, rfl, q7, L⟩
              · exact ⟨rfl, rpost_short (by rw [HW.out, hx.out]; rfl) (hb5.trans L)⟩
              · exact ⟨rfl, rpost_bad (by rw [HW.out, hx.out]; rfl) (hb5.trans L)⟩
              · go_wp2
                go_end0
                exact rpost_ok (by rw [HW.out, hx.out]; rfl) rfl (hb5.trans L) (by rw [show ({ s with r := r7, fin := false } : RSt) = { s with r := r7 } by rw [← HFin.out]]; exact q7)
          · have HZ := Lib.hid (show endsL ch (c :: r) = (textL closL (d :: r2)).bind fun _ t => (textL crlf t).bind fun _ t => .ok true t by rw [HY.out, connT, if_neg hd'])
            have hway : ((d.toNat : Int) == 107) = false ∨ (((d.toNat : Int) == 107) = true ∧ ch = true) := by
              by_cases h : d = 107
              · subst h
                exact .inr ⟨rfl, by cases ch <;> simp_all⟩
              · exact .inl (byte_ne d 107 h)
            clear hd'
            rcases hway with hw1 | ⟨hw1, rfl⟩
            all_goals
              go_wp2_with fail
              refine hnx.mono ?_
              rintro e w3 ⟨rfl, m3, rfl⟩
              go_wp2_with fail
              refine (hT closL (d :: r2) _ (q4.drewN m3) (by decide)).mono ?_
              intro e w4 h4
              rcases rpost_out h4 with ⟨hx, rfl, L⟩ | ⟨hx, rfl, L⟩ | ⟨_, r5, hx, rfl, q5, L⟩
              · exact ⟨rfl, rpost_short (by rw [HZ.out, hx.out]; rfl) ((hb3 m3).trans L)⟩
              · exact ⟨rfl, rpost_bad (by rw [HZ.out, hx.out]; rfl) ((hb3 m3).trans L)⟩
              · have HW := Lib.hid (HZ.out.trans (show _ = (textL crlf r5).bind fun _ t => .ok true t by rw [hx.out]; rfl))
                have hb5 := ((hb3 m3).trans L).setCell (p := ⟨g, 7, none⟩) (Nat.le_refl _) (.bool true)
                have q6 := q5.fin
                obtain ⟨f7, i7⟩ := q5.c7
                clear HZ hx
                go_wp2_with fail
                refine (rd_textL crlf q6 hP (by decide)).mono ?_
                intro e w6 h6
                rcases rpost_out h6 with ⟨hx, rfl, L⟩ | ⟨hx, rfl, L⟩ | ⟨_, r7, hx, rfl, q7, L⟩
                · exact ⟨rfl, rpost_short (by rw [HW.out, hx.out]; rfl) (hb5.trans L)⟩
                · exact ⟨rfl, rpost_bad (by rw [HW.out, hx.out]; rfl) (hb5.trans L)⟩
                · go_wp2
                  go_end0
                  exact rpost_ok (by rw [HW.out, hx.out]; rfl) rfl (hb5.trans L) q7
end Go.Proofs.YtlambdccmfnloaaGreatDoor
