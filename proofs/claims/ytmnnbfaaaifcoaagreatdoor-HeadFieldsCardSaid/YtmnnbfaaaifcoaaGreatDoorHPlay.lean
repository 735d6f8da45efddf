/- usherlaw13: play. -/
import Derived.Test.YtmnnbfaaaifcoaaGreatDoorHLaw
import Derived.Test.YtmnnbfaaaifcoaaGreatDoorRH2
import Derived.Test.YtmnnbfaaaifcoaaGreatDoorLw13
import Derived.Deep.RegionHeld3
namespace Go.Proofs.YtmnnbfaaaifcoaaGreatDoor
open Go.RowKit
set_option maxRecDepth 100000
set_option maxHeartbeats 4000000

theorem run_neq_how (t u : How) (w : World) : (binOp .neq 30 (howV t) (howV u)).run Tryz.prog w = .ok (.bool (!howEq t u)) w := by
  obtain ⟨f, g, h, k, hl, ⟨h1, h2, h3⟩, ⟨h4, h5, h6⟩, ⟨h7, h8, h9⟩, ⟨h10, h11, h12⟩⟩ := how_ff
  rw [run_neq_struct, show (10000 : Nat) = 9999 + 1 from rfl, run_equalIn_agg w 9999 _ _ _ how_u how_p, hl, howEq_def]
  simp [Op.eqFields, h1, h2, h3, h4, h5, h6, h7, h8, h9, h10, h11, h12, go_sem]
  by_cases e1 : t.kind = u.kind <;> by_cases e2 : t.len = u.len <;> by_cases e3 : t.close = u.close <;> by_cases e4 : t.expect = u.expect <;> simp [e1, e2, e3, e4]
theorem law_fields13_eq (A1 : Option Addr) (n1 c1 : Nat) (l : List Fd) (A2 : Option Addr) (n2 c2 : Nat) (w : World) (h1 : Rd w w.heap.size 2 A1 n1 (fcells l)) (h2 : Rd w w.heap.size 2 A2 n2 (fcells l)) (hn : n1 ≤ maxLen) :
    Calls Tryz.prog 23 #[.slice A1 n1 c1, .slice A2 n2 c2] w fun e w' => e = .returned (.bool true) ∧ Below w.heap.size w w' := by
  have h := law_fields13 A1 n1 c1 l A2 n2 c2 l w h1 h2 hn
  rw [decide_eq_true rfl] at h
  exact h
theorem xhr_new (w : World) : XHR (w.alloc (.cells #[.slice none 0 0, .string ⟨#[]⟩, .int .i64 0, .string ⟨#[]⟩, .string ⟨#[]⟩, .string ⟨#[]⟩, .int .i64 0, .int .i64 0, .int .i64 0, .bool false, .bool false, .bool false, .bool false, .int .i64 0, .int .i64 0, .int .i64 0] 44)) w.heap.size (FS w.heap.size (.slice none 0 0)) hs0 :=
  ⟨_, 0, rfl, ⟨Blk.new' _ _ rfl _ _, rfl, OF.nil _ _, Nat.zero_le _, by simp [Value.ownBlock]⟩, fun _ => rfl⟩
theorem hLines_take (h : HS) (l : List Bs) (k : Nat) (s : Bs) (hs : l[k]? = some s) : hLines h (l.take (k + 1)) = hLine (hLines h (l.take k)) s := by
  have hk := (List.getElem?_eq_some_iff.1 hs).1
  rw [List.take_succ_eq_append_getElem hk, hLines, hLines, List.foldl_append]
  rw [show l[k] = s by have := List.getElem?_eq_getElem hk; rw [hs] at this; exact (Option.some.inj this).symm]
  rfl
/-- What 'play' reads of both heads. -/
abbrev PS (g pf gx tb : Nat) (A : Option Addr) (n c : Nat) (h : HS) (w : World) : Prop :=
  w.cell? ⟨g, 0, none⟩ = some (.pointer (some ⟨pf, 0, none⟩)) ∧ w.cell? ⟨gx, 0, none⟩ = some (.slice A n c) ∧ w.cell? ⟨gx, 1, none⟩ = some (sv h.method) ∧ w.cell? ⟨gx, 2, none⟩ = some (.int .i64 h.tgt.form) ∧ w.cell? ⟨gx, 3, none⟩ = some (sv h.tgt.host) ∧ w.cell? ⟨gx, 4, none⟩ = some (sv h.tgt.path) ∧ w.cell? ⟨gx, 5, none⟩ = some (sv h.tgt.query) ∧ w.cell? ⟨gx, 6, none⟩ = some (.int .i64 h.minor) ∧ w.cell? ⟨gx, 7, none⟩ = some (.int .i64 h.how.kind) ∧ w.cell? ⟨gx, 8, none⟩ = some (.int .i64 h.how.len) ∧ w.cell? ⟨gx, 9, none⟩ = some (.bool h.how.close) ∧ w.cell? ⟨gx, 10, none⟩ = some (.bool h.how.expect) ∧ w.cell? ⟨tb, 0, none⟩ = some (.int .i64 h.tgt.form) ∧ w.cell? ⟨tb, 1, none⟩ = some (sv h.tgt.host) ∧ w.cell? ⟨tb, 2, none⟩ = some (sv h.tgt.path) ∧ w.cell? ⟨tb, 3, none⟩ = some (sv h.tgt.query)
theorem PS.below {g pf gx tb : Nat} {A : Option Addr} {n c B : Nat} {h : HS} {w w' : World} (p : PS g pf gx tb A n c h w) (hb : Below B w w') (h1 : g < B) (h2 : gx < B) (h3 : tb < B) : PS g pf gx tb A n c h w' := by
  obtain ⟨a0, b0, b1, b2, b3, b4, b5, b6, b7, b8, b9, b10, c0, c1, c2, c3⟩ := p
  exact ⟨(hb.cell (p := ⟨g, 0, none⟩) h1).trans a0, (hb.cell (p := ⟨gx, 0, none⟩) h2).trans b0, (hb.cell (p := ⟨gx, 1, none⟩) h2).trans b1, (hb.cell (p := ⟨gx, 2, none⟩) h2).trans b2, (hb.cell (p := ⟨gx, 3, none⟩) h2).trans b3, (hb.cell (p := ⟨gx, 4, none⟩) h2).trans b4, (hb.cell (p := ⟨gx, 5, none⟩) h2).trans b5, (hb.cell (p := ⟨gx, 6, none⟩) h2).trans b6, (hb.cell (p := ⟨gx, 7, none⟩) h2).trans b7, (hb.cell (p := ⟨gx, 8, none⟩) h2).trans b8, (hb.cell (p := ⟨gx, 9, none⟩) h2).trans b9, (hb.cell (p := ⟨gx, 10, none⟩) h2).trans b10, (hb.cell (p := ⟨tb, 0, none⟩) h3).trans c0, (hb.cell (p := ⟨tb, 1, none⟩) h3).trans c1, (hb.cell (p := ⟨tb, 2, none⟩) h3).trans c2, (hb.cell (p := ⟨tb, 3, none⟩) h3).trans c3⟩
theorem XHR.parts {w : World} {gx : Nat} {X : Nat → Prop} {h : HS} (k : XHR w gx X h) : ∃ A c bb, Blk w gx 44 (xhCells h bb (.slice A h.flds.length c)) ∧ Rd w w.heap.size 2 A h.flds.length (fcells h.flds) := by
  obtain ⟨v, bb, rfl, k, -⟩ := k
  obtain ⟨A, c, rfl, -, -, hr⟩ := k.own.form
  exact ⟨A, c, bb, k.blk, hr⟩
def PlayPost (w : World) (h : HS) (e : Ending) (w' : World) : Prop :=
  (∃ g gx X, e = .returned (.tuple #[.pointer (some ⟨g, 0, none⟩), .pointer (some ⟨gx, 0, none⟩), .bool true]) ∧ XHR w' gx X h) ∧ Below w.heap.size w w'
theorem law_play (A : Option Addr) (n c B : Nat) (l : List Bs) (w : World) (hA : Rd w B 1 A n (l.map tv)) (hB : B ≤ w.heap.size) (hn : n ≤ 1000000) (hz : ∀ s ∈ l, s.length ≤ 1000000) (hm : ML w) :
    Calls Tryz.prog 19 #[.slice A n c] w (PlayPost w (hLines hs0 l)) := by
  have hln : l.length = n := by simpa using hA.1
  go_enter Tryz.func19, Tryz.ntmps19
  go_wp2_with fail
  refine (hd_New w).mono ?_
  rintro e w1 ⟨⟨g, S1, rfl, k1, hS1⟩, L1⟩
  have X1 := xhr_new w1
  have LA := allocW (Below.refl w1.heap.size w1) (.cells #[.slice none 0 0, .string ⟨#[]⟩, .int .i64 0, .string ⟨#[]⟩, .string ⟨#[]⟩, .string ⟨#[]⟩, .int .i64 0, .int .i64 0, .int .i64 0, .bool false, .bool false, .bool false, .bool false, .int .i64 0, .int .i64 0, .int .i64 0] 44)
  have k2 := k1.belowW LA
  have L2 := stepW L1 LA
  obtain ⟨gx, hgx⟩ : ∃ gx, gx = w1.heap.size := ⟨_, rfl⟩
  obtain ⟨X, hX⟩ : ∃ X, X = FS w1.heap.size (.slice none 0 0) := ⟨_, rfl⟩
  have hXb : ∀ i, X i → w.heap.size ≤ i := fun i hi => by
    rw [hX] at hi
    rcases hi with h1 | h1
    · rw [h1]; exact L1.size
    · simp [Value.ownBlock] at h1
  have hd : ∀ i, S1 i → ¬ X i := fun i h1 h2 => by
    rw [hX] at h2
    rcases h2 with h2 | h2
    · have := k1.lt h1; omega
    · simp [Value.ownBlock] at h2
  obtain ⟨pf1, cf1, -⟩ := k2.f0
  rw [← hX] at X1
  clear k1 hX LA
  obtain ⟨V, hV⟩ : ∃ V, V = w1.alloc (.cells #[.slice none 0 0, .string ⟨#[]⟩, .int .i64 0, .string ⟨#[]⟩, .string ⟨#[]⟩, .string ⟨#[]⟩, .int .i64 0, .int .i64 0, .int .i64 0, .bool false, .bool false, .bool false, .bool false, .int .i64 0, .int .i64 0, .int .i64 0] 44) := ⟨_, rfl⟩
  go_wp2_with fail
  rw [← hV]
  rw [← hV] at X1 k2 L2
  rw [← hgx] at X1 ⊢
  clear hV cf1 hgx L1
  go_loopw [7] (fun i wr => ∃ (k : Nat) (S Y : Nat → Prop), k ≤ n ∧ i = .int .i64 k ∧ HR wr g S (hLines hs0 (l.take k)) ∧ XHR wr gx Y (hLines hs0 (l.take k)) ∧ (∀ j, S j → w.heap.size ≤ j) ∧ (∀ j, Y j → w.heap.size ≤ j) ∧ (∀ j, S j → ¬ Y j) ∧ Below w.heap.size w wr) (fun i _ => n - (intOf i).toNat)
  case atStart => exact ⟨0, S1, X, Nat.zero_le _, rfl, k2, X1, hS1, hXb, hd, L2⟩
  case round =>
    obtain ⟨k, S, Y, hk, rfl, kh, kx, hSb, hYb, hdj, L⟩ := hrel
    by_cases hlt : k < n
    · obtain ⟨s, hs, -⟩ := drop_tx (l := l) (k := k) (by omega)
      have hAr := hA.below (L.mono hB)
      have hsz := hz s (List.mem_of_getElem? hs)
      have hI : HInv (hLines hs0 (l.take k)) := hLines_inv _ _ hs0_inv
      have hE := hLines_take hs0 l k s hs
      have hI2 : HInv (hLines hs0 (l.take (k + 1))) := hLines_inv _ _ hs0_inv
      obtain ⟨b, o, rfl, hb, x0⟩ := hAr.tx k s hs
      have hmr := hm.below L (Nat.le_refl _)
      have hh := hi_of hm hSb
      have hC := hd_Line g S _ ⟨s.toArray⟩ wr kh hI (by exact hsz) hmr hh
      rw [show (⟨s.toArray⟩ : ByteArray).data.toList = s from rfl, ← hE] at hC
      have hCx : ∀ W, XHR W gx Y (hLines hs0 (l.take k)) → Calls Tryz.prog 47 #[.pointer (some ⟨gx, 0, none⟩), .string ⟨s.toArray⟩] W (XHPost W gx Y (hLines hs0 (l.take (k + 1)))) := fun W hk => by
        have h9 := xh_Line gx Y _ ⟨s.toArray⟩ W hk hI (by exact hsz)
        rw [show (⟨s.toArray⟩ : ByteArray).data.toList = s from rfl, ← hE] at h9
        exact h9
      generalize hLines hs0 (l.take k) = h0 at kh kx hI hC hE hCx
      obtain ⟨h2, hh2⟩ : ∃ h2, h2 = hLines hs0 (l.take (k + 1)) := ⟨_, rfl⟩
      rw [← hh2] at hC hCx hI2
      have HH2 := Lib.hid hh2
      clear hE hh2
      have Hs := Lib.hid hs
      clear hs
      go_wp2_with fail
      refine hC.mono ?_
      rintro e w4 ⟨rfl, S4, k4, m4⟩
      have L4 := moved_below m4 L hSb
      have hSb4 := moved_hs m4 L.size hSb
      have kx4 := kx.fr m4.fr (fun j h1 h2 => hdj j h2 h1)
      have hdj4 : ∀ j, S4 j → ¬ Y j := fun j h1 h2 => by
        rcases m4.foot j h1 with h3 | h3
        · exact hdj j h3 h2
        · have := kx.lt h2; omega
      obtain ⟨b', o', e', hb', x4⟩ := (hA.below (L4.mono hB)).tx k s Hs.out
      injection e' with e'
      injection e' with e1 e2
      subst e1 e2
      clear hC kh kx m4 x0 hmr hh hAr L hdj hSb hI
      go_wp2_with fail
      refine (hCx w4 kx4).mono ?_
      rintro e w5 ⟨rfl, Y5, k5, m5⟩
      have L5 := moved_below m5 L4 hYb
      have hYb5 := moved_hs m5 L4.size hYb
      have kh5 := k4.fr m5.fr hdj4
      have hdj5 : ∀ j, S4 j → ¬ Y5 j := fun j h1 h2 => by
        rcases m5.foot j h2 with h3 | h3
        · exact hdj4 j h1 h3
        · have := k4.lt h1; omega
      clear hCx kx4 m5 k4 hdj4 hYb x4 L4
      go_wp2_with fail
      refine (hd_Start g S4 h2 w5 kh5).mono ?_
      rintro e w6 ⟨rfl, M6⟩
      have L6 := stepW L5 M6
      have LA := allocW (Below.refl w6.heap.size w6) (.cells #[.int .i64 h2.tgt.form, sv h2.tgt.host, sv h2.tgt.path, sv h2.tgt.query] 26)
      have BA := Blk.new w6 26 #[.int .i64 h2.tgt.form, sv h2.tgt.host, sv h2.tgt.path, sv h2.tgt.query]
      obtain ⟨W, hW⟩ : ∃ W, W = w6.alloc (.cells #[.int .i64 h2.tgt.form, sv h2.tgt.host, sv h2.tgt.path, sv h2.tgt.query] 26) := ⟨_, rfl⟩
      rw [← hW] at LA BA
      have L7 := stepW L6 LA
      have kh7 := (kh5.belowW M6).belowW LA
      have kx7 := (k5.belowW M6).belowW LA
      have tq := fun w : World => run_neq_tg h2.tgt h2.tgt w
      rw [show tgEq h2.tgt h2.tgt = true by simp [tgEq]] at tq
      have tg := fun (o : Operand) (o' : Operand) (xs ys : Array Value) (w : World) => run_guard_tg .neq o o' xs ys w
      have kq := fun w : World => run_neq_how h2.how h2.how w
      rw [show howEq h2.how h2.how = true by simp [howEq]] at kq
      have kg := fun (o : Operand) (o' : Operand) (xs ys : Array Value) (w : World) => run_guard_how .neq o o' xs ys w
      unfold tgtV at tq
      unfold howV at kq
      unfold tgtV
      obtain ⟨pf, d0, hF⟩ := kh7.f0
      obtain ⟨Af, cf, bb, BX, hrx⟩ := kx7.parts
      unfold xhCells at BX
      have hP : PS g pf gx w6.heap.size Af h2.flds.length cf h2 W := ⟨d0, BX.cell 0, BX.cell 1, BX.cell 2, BX.cell 3, BX.cell 4, BX.cell 5, BX.cell 6, BX.cell 7, BX.cell 8, BX.cell 9, BX.cell 10, BA.cell 0, BA.cell 1, BA.cell 2, BA.cell 3⟩
      have hgW : g < W.heap.size := kh7.lt (by obtain ⟨q1, q2, q3, -⟩ := kh7; rw [q3]; exact .inl rfl)
      have hgxW := BX.lt
      have htW := BA.lt
      have hpd : ∀ w', Below W.heap.size W w' → PS g pf gx w6.heap.size Af h2.flds.length cf h2 w' := fun w' hb => hP.below hb hgW hgxW htW
      have hfl : h2.flds.length ≤ 100000 := Nat.le_trans hI2.len (by decide)
      have hfm : h2.flds.length ≤ maxLen := Nat.le_trans hI2.len (by decide)
      have hAll : ∀ W', Below W.heap.size W W' → Calls Tryz.prog 24 #[.pointer (some ⟨pf, 0, none⟩)] W' fun e w' => (∃ v, e = .returned v ∧ OF w' W'.heap.size v h2.flds) ∧ Below W'.heap.size W' w' := fun W' hb => fld_All pf h2.flds W' (hF.belowW hb) hfl
      have Ld : Below W.heap.size W W.drew := (Below.refl W.heap.size W).drew
      clear d0 BX kh5 k5 M6 L5 L6 BA hF hP
      go_wp2_with fail
      rw [← hW]
      clear hW LA
      go_region_held3 (fun w' => PS g pf gx w6.heap.size Af h2.flds.length cf h2 w')
        (first | exact hpd _ (Below.refl _ _) | exact hpd _ Ld | exact S7 | exact S8 | exact S9 | go_keep)
        (first
          | (go_at_call 24
             refine (hAll _ Ld).mono ?_
             rintro e w7 ⟨⟨v7, rfl, ho7⟩, M7⟩
             have N7 := stepW Ld M7
             have S7 := hpd w7 N7
             obtain ⟨A7, c7, rfl, -, -, hr7⟩ := OF.form ho7)
          | (go_at_call 23
             refine (law_fields13_eq _ _ _ h2.flds _ _ _ _ hr7 (hrx.belowW (Nat.le_refl _) N7 |>.more N7.size) hfm).mono ?_
             rintro e w8 ⟨rfl, M8⟩
             have N8 := stepW N7 M8
             have S8 := hpd w8 N8)
          | (go_at_call 17
             refine (hd_How g S4 h2 _ (kh7.belowW N8)).mono ?_
             rintro e w9 ⟨rfl, M9⟩
             have N9 := stepW N8 M9
             have S9 := hpd w9 N9))
      go_wp2_with fail
      go_roundw
      case rel => rw [HH2.out] at kh7 kx7; exact ⟨k + 1, S4, Y5, by omega, by go_num, kh7.belowW N9, kx7.belowW N9, hSb4, hYb5, hdj5, stepW L7 N9⟩
      case measure => simp [intOf]; omega
    · have HR := Lib.hid (show hLines hs0 (l.take k) = hLines hs0 l by rw [List.take_of_length_le (by omega)])
      rw [HR.out] at kx
      go_wp2
      refine bodyPost_ret (v := .tuple #[.pointer (some ⟨g, 0, none⟩), .pointer (some ⟨gx, 0, none⟩), .bool true]) (by simp [results, Tryz.results19, go_sem]) rfl ⟨⟨g, gx, Y, rfl, kx⟩, L⟩
end Go.Proofs.YtmnnbfaaaifcoaaGreatDoor
