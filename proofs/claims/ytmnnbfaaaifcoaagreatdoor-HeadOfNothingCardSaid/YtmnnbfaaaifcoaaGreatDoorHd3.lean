/- head: starts. -/
import Derived.Test.YtmnnbfaaaifcoaaGreatDoorHd2
import Derived.Deep.QuietTactic
import Derived.BigQuiet
import Derived.Deep.DeepCutAuto
import Derived.Deep.RegionHeld3
namespace Go.Proofs.YtmnnbfaaaifcoaaGreatDoor
open Go.RowKit
set_option maxRecDepth 100000
set_option maxHeartbeats 4000000

theorem pre_take (v : Bs) (h : Lib.hasPrefix v httpV = true) : v.take 5 = httpV ∧ Lib.trimPrefix v httpV = v.drop 5 := by
  have h1 : httpV <+: v := by
    rw [← List.isPrefixOf_iff_prefix]; exact h
  obtain ⟨t, rfl⟩ := h1
  refine ⟨rfl, ?_⟩
  unfold Lib.trimPrefix
  rw [if_pos h]
  rfl
theorem take_pre (v : Bs) (h : Lib.hasPrefix v httpV = false) : v.take 5 ≠ httpV := by
  intro h1
  have h2 : httpV <+: v := by rw [← h1]; exact List.take_prefix _ _
  rw [← List.isPrefixOf_iff_prefix] at h2
  have h3 : Lib.hasPrefix v httpV = true := h2
  rw [h] at h3; cases h3
theorem verL_no (v : Bs) (h : Lib.hasPrefix v httpV = false) : verL v = none := by
  have h1 := take_pre v h
  unfold verL
  split
  · rw [if_neg (fun h2 => h1 h2.1)]
  · rfl
theorem verL_len (v : Bs) (h : (v.drop 5).length ≠ 3) : verL v = none := by
  unfold verL
  split
  · rename_i a d b hv; rw [hv] at h; exact absurd rfl h
  · rfl
theorem verL_three (v : Bs) (a d b : UInt8) (h : v.take 5 = httpV) (hv : v.drop 5 = [a, d, b]) : verL v = if d = 46 ∧ digC a = true ∧ digC b = true then some (a, b) else none := by
  unfold verL
  rw [hv]
  simp only [h, true_and]
theorem three_of (u : Bs) (h : u.length = 3) : ∃ a d b, u = [a, d, b] := by
  match u, h with
  | [a, d, b], _ => exact ⟨a, d, b, rfl⟩
def stH (h : HS) (s : Bs) : HS := if (startL s).1 = 0 then { h with begun := true, method := (startL s).2.1, tgt := (startL s).2.2.1, minor := (startL s).2.2.2 } else h
def StartsPost (w : World) (g pf : Nat) (h : HS) (s : Bs) (e : Ending) (w' : World) : Prop :=
  e = .returned (.int .i64 (startL s).1) ∧ Blk w' g 55 (hCells (stH h s) pf) ∧ Fr (fun k => k = g) w w'
theorem starts_no {w w' : World} {g pf : Nat} {h : HS} {s : Bs} {st : Int} (hb : Blk w g 55 (hCells h pf)) (L : Below w.heap.size w w') (hs : startL s = (st, [], tgt0, 0)) (h0 : st ≠ 0) : StartsPost w g pf h s (.returned (.int .i64 st)) w' := by
  refine ⟨by rw [hs], ?_, (Fr.refl _ w).belowW L⟩
  rw [stH, hs, if_neg h0]
  exact hb.belowW L
theorem startL_n (s : Bs) (h : (splitL 32 s).length ≠ 3) : startL s = (400, [], tgt0, 0) := by
  unfold startL
  split
  · rename_i m t v hv; rw [hv] at h; exact absurd rfl h
  · rfl
theorem startL_m (s m t v : Bs) (h : splitL 32 s = [m, t, v]) : startL s = ((if tkL m then
      (match verL v with
       | none => (400, [], tgt0, 0)
       | some (a, b) =>
         if a = 49 then
           (if (parseL m t).2 = 0 then (0, m, (parseL m t).1, if b = 48 then 0 else 1)
            else if (parseL m t).2 = 9 then (414, [], tgt0, 0) else (400, [], tgt0, 0))
         else (505, [], tgt0, 0))
    else (400, [], tgt0, 0)) : Int × Bs × Tgt × Int) := by
  unfold startL; rw [h]; dsimp only; generalize verL v = o; cases o <;> rfl
theorem splitL_mem (c : UInt8) : ∀ (l : Bs) (p : Bs), p ∈ splitL c l → p.length ≤ l.length
  | [], p, h => by simp [splitL] at h; simp [h]
  | b :: l, p, h => by
    rw [splitL] at h
    split at h
    · rcases List.mem_cons.1 h with rfl | h
      · simp
      · have := splitL_mem c l p h; simp; omega
    · obtain ⟨q, ps, h1⟩ := List.exists_cons_of_ne_nil (splitL_ne c l)
      rw [h1] at h
      rcases List.mem_cons.1 h with rfl | h
      · have := splitL_mem c l q (by rw [h1]; simp)
        simp; omega
      · have := splitL_mem c l p (by rw [h1]; simp [h])
        simp; omega
theorem cells3 {w : World} {g : Nat} {m t v : Bs} (h : Rd w w.heap.size 1 (some ⟨g, 0, none⟩) 3 ([m, t, v].map tv)) :
    w.cell? ⟨g, 0, none⟩ = some (sv m) ∧ w.cell? ⟨g, 1, none⟩ = some (sv t) ∧ w.cell? ⟨g, 2, none⟩ = some (sv v) := by
  obtain ⟨b, o, e, -, hx⟩ := h.2 (by omega)
  injection e with e
  injection e with e1 e2
  subst e1 e2
  exact ⟨hx 0 _ rfl, hx 1 _ rfl, hx 2 _ rfl⟩
theorem u8neH {c d : UInt8} (h : c ≠ d) {n : Int} (hn : (d.toNat : Int) = n) : ((c.toNat : Int) == n) = false := by
  rw [Bool.eq_false_iff]
  intro h2
  rw [beq_iff_eq] at h2
  exact h (u8inj (by omega))
theorem Rd.lt0 {w : World} {B g n size : Nat} {xs : List Value} (h : Rd w B size (some ⟨g, 0, none⟩) (n + 1) xs) : g < B := by
  obtain ⟨b, o, e, hb, -⟩ := h.2 (by omega)
  injection e with e
  injection e with e1 e2
  omega
theorem Blk.set4 {w : World} {g : Nat} {T : TypeId} {a0 a1 a2 a3 : Value} (h : Blk w g T #[a0, a1, a2, a3]) (b0 b1 b2 b3 : Value) : Blk ((((w.setCell ⟨g, 0, none⟩ b0).setCell ⟨g, 1, none⟩ b1).setCell ⟨g, 2, none⟩ b2).setCell ⟨g, 3, none⟩ b3) g T #[b0, b1, b2, b3] :=
  (((h.set_ 0 b0).set_ 1 b1).set_ 2 b2).set_ 3 b3
theorem below_set4 {n g : Nat} {W w : World} (h : Below n W w) (hg : n ≤ g) (b0 b1 b2 b3 : Value) : Below n W ((((w.setCell ⟨g, 0, none⟩ b0).setCell ⟨g, 1, none⟩ b1).setCell ⟨g, 2, none⟩ b2).setCell ⟨g, 3, none⟩ b3) :=
  (((h.setCell hg b0).setCell hg b1).setCell hg b2).setCell hg b3
theorem cell_set4 {w : World} {g k : Nat} {b0 b1 b2 b3 : Value} (h : ¬ k = g) {i : Nat} : ((((w.setCell ⟨g, 0, none⟩ b0).setCell ⟨g, 1, none⟩ b1).setCell ⟨g, 2, none⟩ b2).setCell ⟨g, 3, none⟩ b3).cell? ⟨k, i, none⟩ = w.cell? ⟨k, i, none⟩ := by
  have hh : ∀ (w : World) (j : Nat) (u : Value), (w.setCell ⟨g, j, none⟩ u).heap[k]? = w.heap[k]? := fun w j u => Below.heap_setCell w ⟨g, j, none⟩ u k h
  exact World.cell?_of_block (by rw [hh, hh, hh, hh])
theorem hCells_start (h : HS) (pf : Nat) (m : Bs) (T : Tgt) (n : Int) : (((((((hCells h pf).setIfInBounds 7 (.bool true)).setIfInBounds 1 (sv m)).setIfInBounds 2 (.int .i64 T.form)).setIfInBounds 3 (sv T.host)).setIfInBounds 4 (sv T.path)).setIfInBounds 5 (sv T.query)).setIfInBounds 6 (.int .i64 n) = hCells { h with begun := true, method := m, tgt := T, minor := n } pf := by
  simp [hCells]
theorem hCells_minor (h : HS) (pf : Nat) (n : Int) : (hCells h pf).setIfInBounds 6 (.int .i64 n) = hCells { h with minor := n } pf := by
  simp [hCells]
theorem hd_starts_go (g pf : Nat) (h : HS) (s : ByteArray) (w : World) (hb : Blk w g 55 (hCells h pf)) (hs : s.size ≤ 1000) (hm : ML w) (m t v : Bs) (b : UInt8) (hL : splitL 32 s.data.toList = [m, t, v]) (t1 : tkL m = true) (p1 : Lib.hasPrefix v httpV = true) (hu : v.drop 5 = [49, 46, b]) (db : digC b = true) :
    Calls Tryz.prog 43 #[.pointer (some ⟨g, 0, none⟩), .string s] w (StartsPost w g pf h s.data.toList) := by
  have hS := lib_split1 s 32 w (by omega) hm
  rw [hL] at hS
  have HM := Lib.hid (startL_m _ _ _ _ hL)
  have hz : ∀ p ∈ splitL 32 s.data.toList, p.length ≤ s.size := fun p hp => by rw [← len_data]; exact splitL_mem _ _ _ hp
  rw [hL] at hz
  have z1 := hz m (by simp)
  have z2 := hz t (by simp)
  have z3 := hz v (by simp)
  clear hz hL
  have hT := fun w => asc_IsToken ⟨m.toArray⟩ w (by show m.length ≤ _; unfold maxLen; omega)
  rw [show (⟨m.toArray⟩ : ByteArray).data.toList = m from rfl, show (allT m && decide (0 < m.length)) = tkL m from rfl] at hT
  have hP := fun w => Tryz.strings_CutPrefix ⟨v.toArray⟩ ⟨#[72, 84, 84, 80, 47]⟩ w
  rw [show (⟨v.toArray⟩ : ByteArray).data.toList = v from rfl, show (⟨#[72, 84, 84, 80, 47]⟩ : ByteArray).data.toList = httpV from rfl] at hP
  have HM2 := Lib.hid (HM.out.trans (if_pos t1))
  rw [t1] at hT
  obtain ⟨q1, q2⟩ := pre_take v p1
  rw [p1, q2, hu] at hP
  have HV := Lib.hid (verL_three v 49 46 b q1 hu)
  clear t1 HM p1 q1 q2 hu
  obtain ⟨U, hU⟩ : ∃ U : ByteArray, U = ⟨[49, 46, b].toArray⟩ := ⟨_, rfl⟩
  rw [← hU] at hP
  have us : U.size = 3 := by rw [hU]; rfl
  have e0 : U[0]'(by omega) = 49 := by subst hU; rfl
  have e1 : U[1]'(by omega) = 46 := by subst hU; rfl
  have e2 : U[2]'(by omega) = b := by subst hU; rfl
  have hDa := fun w => hd_isDigit 49 w
  have hDb := fun w => hd_isDigit b w
  clear hU
  have da : digC 49 = true := by decide
  rw [da] at hDa
  rw [db] at hDb
  have hv2 := HV.out.trans (if_pos ⟨rfl, da, db⟩)
  have HM3 := Lib.hid (show startL s.data.toList = (if (parseL m t).2 = 0 then (0, m, (parseL m t).1, if b = 48 then 0 else 1) else if (parseL m t).2 = 9 then (414, [], tgt0, 0) else (400, [], tgt0, 0) : Int × Bs × Tgt × Int) by rw [HM2.out, hv2]; rfl)
  clear HM2 HV da db hv2
  go_enter Tryz.func43, Tryz.ntmps43
  go_wp2_with fail
  refine hS.mono ?_
  rintro e w1 ⟨rfl, hr, L1⟩
  obtain ⟨x0, x1, x2⟩ := cells3 hr
  go_wp2_with fail
  refine (hT _).mono ?_
  rintro e w2 ⟨rfl, rfl⟩
  go_wp2_with fail
  refine (hP _).mono ?_
  rintro e w3 ⟨rfl, rfl⟩
  go_wp2_with fail
  refine (hDa _).mono ?_
  rintro e w4 ⟨rfl, rfl⟩
  go_wp2_with fail
  refine (hDb _).mono ?_
  rintro e w4 ⟨rfl, rfl⟩
  have hTP := fun w hm => tgt_Parse ⟨m.toArray⟩ ⟨t.toArray⟩ w (by show t.length < _; omega) hm
  rw [show (⟨m.toArray⟩ : ByteArray).data.toList = m from rfl, show (⟨t.toArray⟩ : ByteArray).data.toList = t from rfl] at hTP
  generalize parseL m t = PT at hTP HM3
  obtain ⟨T, er⟩ := PT
  simp only [tgR_mk] at hTP HM3
  have o0 : (.cells #[.int .i64 0, .string ⟨#[]⟩, .string ⟨#[]⟩, .string ⟨#[]⟩] 26 : Obj) = .cells #[.int .i64 0, .string ⟨#[]⟩, .string ⟨#[]⟩, .string ⟨#[]⟩] 26 := rfl
  have BV : Blk (w3.alloc (.cells #[.int .i64 0, .string ⟨#[]⟩, .string ⟨#[]⟩, .string ⟨#[]⟩] 26)).drew w3.heap.size 26 #[.int .i64 0, .string ⟨#[]⟩, .string ⟨#[]⟩, .string ⟨#[]⟩] := (Blk.new' _ _ rfl _ _).belowW ((Below.refl _ _).drew)
  have LV : Below w3.heap.size w3 (w3.alloc (.cells #[.int .i64 0, .string ⟨#[]⟩, .string ⟨#[]⟩, .string ⟨#[]⟩] 26)).drew := (allocW (Below.refl w3.heap.size w3) _).drew
  have L3 := stepW L1 LV
  have hm3 := hm.below L3 (Nat.le_refl _)
  have M3 := L1.drew
  have hn3 := hm.below M3 (Nat.le_refl _)
  have hp0 := hr.lt0
  have v0 := (LV.cell (p := ⟨w.heap.size, 0, none⟩) hp0).trans x0
  have v1 := (LV.cell (p := ⟨w.heap.size, 1, none⟩) hp0).trans x1
  have hpV := Nat.lt_of_lt_of_le hp0 LV.size
  have hnw : ¬ w.heap.size = w3.heap.size := by omega
  have hnw2 : ¬ w3.heap.size = w.heap.size := by omega
  clear o0 hr hS hT hP x2
  go_upto_region 9 with (fail)
  go_cut [8, 9] (fun v8 v9 wx => ∃ tb, v8 = .pointer (some ⟨tb, 0, none⟩) ∧ v9 = .int .i64 er ∧ Blk wx tb 26 #[.int .i64 T.form, sv T.host, sv T.path, sv T.query] ∧ w.heap.size < tb ∧ Below w.heap.size w wx ∧ wx.cell? ⟨w.heap.size, 0, none⟩ = some (sv m))
  case first =>
    go_region_held3 (fun w' => w'.cell? ⟨w.heap.size, 0, none⟩ = some (sv m) ∧ w'.cell? ⟨w.heap.size, 1, none⟩ = some (sv t))
      (first | go_keep | exact S5)
      (first
        | (go_at_call 72
           refine (hTP _ hm3).mono ?_
           rintro e w5 ⟨rfl, L5⟩
           have L5' := stepW L3 L5
           have S5 : w5.cell? ⟨w.heap.size, 0, none⟩ = some (sv m) ∧ w5.cell? ⟨w.heap.size, 1, none⟩ = some (sv t) := ⟨(L5.cell (p := ⟨w.heap.size, 0, none⟩) hpV).trans v0, (L5.cell (p := ⟨w.heap.size, 1, none⟩) hpV).trans v1⟩
           have B5 := BV.belowW L5
           obtain ⟨k0, k1, k2, k3, l0, l1, l2, l3⟩ := B5.c4)
        | (go_at_call 72
           refine (hTP _ hn3).mono ?_
           rintro e w5 ⟨rfl, L5⟩
           have L5' := stepW M3 L5
           have S5 : w5.cell? ⟨w.heap.size, 0, none⟩ = some (sv m) ∧ w5.cell? ⟨w.heap.size, 1, none⟩ = some (sv t) := ⟨(L5.cell (p := ⟨w.heap.size, 0, none⟩) hp0).trans x0, (L5.cell (p := ⟨w.heap.size, 1, none⟩) hp0).trans x1⟩))
    all_goals go_wp2_with fail
    all_goals go_meet
    all_goals case rel =>
      first
        | (have BB5 := B5
           exact ⟨_, rfl, rfl, Blk.set4 BB5 _ _ _ _, hp0, below_set4 L5' (Nat.le_of_lt hp0) _ _ _ _, (cell_set4 hnw).trans S5.1⟩)
        | exact ⟨_, rfl, rfl, Blk.new' _ _ rfl _ _, Nat.lt_of_lt_of_le hp0 L5.size, allocW L5' _, ((allocW (Below.refl w5.heap.size w5) _).cell (p := ⟨w.heap.size, 0, none⟩) (Nat.lt_of_lt_of_le hp0 L5.size)).trans S5.1⟩
  case rest =>
    obtain ⟨tb, rfl, rfl, BT, htb, LX, xm⟩ := hcut
    obtain ⟨wx, rfl⟩ : ∃ wx, wx = wc := ⟨_, rfl⟩
    by_cases er0 : er = 0
    · subst er0
      have HE := Lib.hid (show startL s.data.toList = (0, m, T, if b = 48 then 0 else 1) by rw [HM3.out, if_pos rfl])
      have hbx := hb.belowW LX
      have hgt : ¬ g = tb := fun h1 => by have := hb.lt; omega
      have hgt2 : ¬ tb = g := fun h1 => hgt h1.symm
      have hgw : ¬ g = w.heap.size := fun h1 => by have := hb.lt; omega
      have hgw2 : ¬ w.heap.size = g := fun h1 => hgw h1.symm
      have hbu := hbx
      unfold hCells at hbu
      obtain ⟨⟨j0, j1, j2, j3, j4, j5, j6, j7, j8, j9, j10, j11, j12, j13, j14, j15⟩, i0, i1, i2, i3, i4, i5, i6, i7, i8, i9, i10, i11, i12, i13, i14, i15⟩ := Blk.c16 hbu
      obtain ⟨k0, k1, k2, k3, l0, l1, l2, l3⟩ := BT.c4
      clear HM3 hTP BV LV L3 hm3 M3 hn3 v0 v1 hpV x0 x1 j0 j8 j9 j10 j11 j12 j13 j14 j15 i0 i8 i9 i10 i11 i12 i13 i14 i15 BT hDa hDb L1 hbu
      go_wp2_with fail
      go_region_held3 (fun w' => w'.cell? ⟨w.heap.size, 0, none⟩ = some (sv m) ∧ w'.cell? ⟨tb, 0, none⟩ = some (.int .i64 T.form) ∧ w'.cell? ⟨tb, 1, none⟩ = some (sv T.host) ∧ w'.cell? ⟨tb, 2, none⟩ = some (sv T.path) ∧ w'.cell? ⟨tb, 3, none⟩ = some (sv T.query))
        (go_keep)
        (fail)
      have hB9 := (((((((hbx.set_ 7 (.bool true)).set_ 1 (sv m)).set_ 2 (.int .i64 T.form)).set_ 3 (sv T.host)).set_ 4 (sv T.path)).set_ 5 (sv T.query)).set_ 6 (.int .i64 1)).belowW ((Below.refl _ _).drew)
      rw [hCells_start] at hB9
      have hF0 : Fr (fun k => k = g) w wx := (Fr.refl _ w).belowW LX
      have hF9 := (((((((hF0.setCell (p := ⟨g, 7, none⟩) (.inl rfl) (.bool true)).setCell (p := ⟨g, 1, none⟩) (.inl rfl) (sv m)).setCell (p := ⟨g, 2, none⟩) (.inl rfl) (.int .i64 T.form)).setCell (p := ⟨g, 3, none⟩) (.inl rfl) (sv T.host)).setCell (p := ⟨g, 4, none⟩) (.inl rfl) (sv T.path)).setCell (p := ⟨g, 5, none⟩) (.inl rfl) (sv T.query)).setCell (p := ⟨g, 6, none⟩) (.inl rfl) (.int .i64 1)).drew
      generalize hV9 : (((((((wx.setCell ⟨g, 7, none⟩ (.bool true)).setCell ⟨g, 1, none⟩ (sv m)).setCell ⟨g, 2, none⟩ (.int .i64 T.form)).setCell ⟨g, 3, none⟩ (sv T.host)).setCell ⟨g, 4, none⟩ (sv T.path)).setCell ⟨g, 5, none⟩ (sv T.query)).setCell ⟨g, 6, none⟩ (.int .i64 1)).drew = V9 at hB9 hF9 ⊢
      have f6 := hB9.frozen 6
      have d6 : V9.cell? ⟨g, 6, none⟩ = some (.int .i64 1) := hB9.cell 6
      by_cases b48 : b = 48
      · subst b48
        go_wp2
        go_ret
        refine ⟨by rw [HE.out]; rfl, ?_, hF9.setCell (.inl rfl) _⟩
        rw [stH, HE.out, if_pos rfl]
        have hB10 := hB9.set_ 6 (.int .i64 0)
        rw [hCells_minor] at hB10
        exact hB10
      · have hne := u8neH b48 (n := 48) rfl
        go_wp2
        go_ret
        refine ⟨by rw [HE.out]; rfl, ?_, hF9⟩
        rw [stH, HE.out, if_pos rfl, if_neg b48]
        exact hB9
    · have hz0 : (er == 0) = false := by rw [Bool.eq_false_iff]; intro h0; rw [beq_iff_eq] at h0; exact er0 h0
      by_cases er9 : er = 9
      · subst er9
        have HE := Lib.hid (show startL s.data.toList = (414, [], tgt0, 0) by rw [HM3.out, if_neg er0, if_pos rfl])
        clear HM3 hTP BV LV L3 hm3 M3 hn3 v0 v1 hpV x0 x1 hDa hDb L1
        go_wp2
        go_ret
        exact starts_no hb LX HE.out (by decide)
      · have HE := Lib.hid (show startL s.data.toList = (400, [], tgt0, 0) by rw [HM3.out, if_neg er0, if_neg er9])
        have hz9 : (er == 9) = false := by rw [Bool.eq_false_iff]; intro h0; rw [beq_iff_eq] at h0; exact er9 h0
        clear HM3 hTP BV LV L3 hm3 M3 hn3 v0 v1 hpV x0 x1 hDa hDb L1
        go_wp2
        go_ret
        exact starts_no hb LX HE.out (by decide)
end Go.Proofs.YtmnnbfaaaifcoaaGreatDoor
