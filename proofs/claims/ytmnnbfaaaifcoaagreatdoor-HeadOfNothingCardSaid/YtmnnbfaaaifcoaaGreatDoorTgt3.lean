/- target.Clean. -/
import Derived.Test.YtmnnbfaaaifcoaaGreatDoorTgt2
import Derived.Lib.Split
namespace Go.Proofs.YtmnnbfaaaifcoaaGreatDoor
open Go.RowKit
set_option maxRecDepth 100000
set_option maxHeartbeats 2000000

theorem splitL_append (c : UInt8) : ∀ (t r : Bs), (∀ b ∈ t, b ≠ c) → splitL c (t ++ c :: r) = t :: splitL c r
  | [], r, _ => by simp [splitL]
  | b :: t, r, h => by
    have hb : b ≠ c := h b (by simp)
    rw [List.cons_append, splitL, if_neg hb, splitL_append c t r (fun x hx => h x (by simp [hx]))]
theorem splitL_free (c : UInt8) : ∀ (t : Bs), (∀ b ∈ t, b ≠ c) → splitL c t = [t]
  | [], _ => rfl
  | b :: t, h => by
    have hb : b ≠ c := h b (by simp)
    rw [splitL, if_neg hb, splitL_free c t (fun x hx => h x (by simp [hx]))]
theorem takeWhile_ne (c : UInt8) : ∀ (l : Bs), ∀ b ∈ l.takeWhile (· != c), b ≠ c
  | [], b, hb => by simp at hb
  | x :: l, b, hb => by
    rw [List.takeWhile_cons] at hb
    split at hb
    · rename_i h
      rcases List.mem_cons.1 hb with rfl | hb
      · simpa using h
      · exact takeWhile_ne c l b hb
    · simp at hb
theorem splitK_1 (c : UInt8) : ∀ (k : Nat) (l : Bs), l.count c ≤ k → Lib.splitK [c] 0 k l = splitL c l
  | 0, l, h => by
    rw [Lib.splitK, splitL_free c l (fun b hb e => by subst e; have := List.count_pos_iff.2 hb; omega)]
  | k + 1, l, h => by
    rw [Lib.splitK]
    rcases index_1 c l with ⟨h1, h2, h3⟩ | ⟨r, h1, h2, h3⟩
    · rw [h1, if_pos (by rfl), splitL_free c l (fun b hb e => by rw [← h2] at hb; exact takeWhile_ne c l b hb e)]
    · rw [h2, if_neg (by simp)]
      have hc : l.count c = 1 + r.count c := by
        rw [h3, List.count_append, List.count_cons_self]
        have : (l.takeWhile (· != c)).count c = 0 := List.count_eq_zero.2 (fun hm => takeWhile_ne c l c hm rfl)
        omega
      have ht := takeWhile_ne c l
      generalize l.takeWhile (· != c) = t at h3 ht
      subst h3
      rw [splitL_append c t r ht, ← splitK_1 c k r (by omega)]
      simp
theorem count_1 (c : UInt8) : ∀ (f : Nat) (l : Bs), l.length < f → Lib.countFrom [c] f l = l.count c
  | 0, l, h => by omega
  | f + 1, l, h => by
    rw [Lib.countFrom]
    rcases index_1 c l with ⟨h1, h2, h3⟩ | ⟨r, h1, h2, h3⟩
    · rw [h1, if_pos (by rfl)]
      exact (List.count_eq_zero.2 (fun hm => by rw [← h2] at hm; exact takeWhile_ne c l c hm rfl)).symm
    · rw [h2, if_neg (by simp)]
      have ht := takeWhile_ne c l
      generalize l.takeWhile (· != c) = t at h3 ht
      subst h3
      have e : (t ++ c :: r).drop ((t.length : Int).toNat + [c].length) = r := by simp
      rw [e, count_1 c f r (by simp at h; omega), List.count_append, List.count_cons_self, List.count_eq_zero.2 (fun hm => ht c hm rfl)]
      omega
theorem splitB_1 (c : UInt8) (s : ByteArray) : (Lib.splitB ⟨#[c]⟩ 0 (Lib.countB s ⟨#[c]⟩) s).map (·.data.toList) = splitL c s.data.toList := by
  rw [Lib.splitB_data]
  exact splitK_1 c _ _ (by rw [Lib.countB, Lib.count, show (⟨#[c]⟩ : ByteArray).data.toList = [c] from rfl, count_1 c _ _ (by omega)]; exact Nat.le_refl _)
theorem splitL_len (c : UInt8) : ∀ (l : Bs), (splitL c l).length = l.count c + 1
  | [] => rfl
  | b :: l => by
    have ih := splitL_len c l
    rw [splitL]
    split
    · rename_i h
      subst h
      rw [List.length_cons, ih, List.count_cons_self]
    · rename_i h
      obtain ⟨p, ps, h1⟩ := List.exists_cons_of_ne_nil (splitL_ne c l)
      rw [List.count_cons_of_ne h, ← ih, h1]
      rfl
theorem lib_split1 (s : ByteArray) (c : UInt8) (w : World) (hs : s.size < 4294967281) (hm : ML w) :
    Calls Tryz.prog 68 #[.string s, .string ⟨#[c]⟩] w fun e w' => e = .returned (.slice (some ⟨w.heap.size, 0, none⟩) (splitL c s.data.toList).length (splitL c s.data.toList).length) ∧ Rd w' w'.heap.size 1 (some ⟨w.heap.size, 0, none⟩) (splitL c s.data.toList).length ((splitL c s.data.toList).map tv) ∧ Below w.heap.size w w' := by
  obtain ⟨m, hm⟩ := hm
  refine (Tryz.strings_Split s ⟨#[c]⟩ m w hs hm (Nat.le_refl 1)).mono ?_
  rintro e w' ⟨rfl, rfl⟩
  have h1 := splitB_1 c s
  have hl : Lib.countB s ⟨#[c]⟩ + 1 = (splitL c s.data.toList).length := by
    rw [splitL_len, Lib.countB, Lib.count, show (⟨#[c]⟩ : ByteArray).data.toList = [c] from rfl, count_1 c _ _ (by omega)]
  have h2 : (Lib.splitB ⟨#[c]⟩ 0 (Lib.countB s ⟨#[c]⟩) s).map Value.string = (splitL c s.data.toList).map tv := by
    rw [← h1, List.map_map]
    exact List.map_congr_left fun x _ => by simp
  rw [hl, h2]
  refine ⟨rfl, ?_, (Below.refl _ _).alloc (Nat.le_refl _) _⟩
  exact (Rd.new w _ rfl ((splitL c s.data.toList).map tv) _ _ 1 (by simp)).more (by simp)

def clnR (o : Option Bs) : Value := .tuple #[sv (o.getD []), .bool o.isSome]
theorem take_one {α : Type} (P : List α) (k : Nat) (p : α) (h : P[k]? = some p) : P.take (k + 1) = P.take k ++ [p] := by
  rw [List.take_add_one, h]; rfl
theorem fold_one (P : List Bs) (k : Nat) (p : Bs) (ps : List Bs) (h : P[k]? = some p) (H : (P.take k).foldl stepP (some []) = some ps) : (P.take (k + 1)).foldl stepP (some []) = stepP (some ps) p := by
  rw [take_one P k p h, List.foldl_append, H]; rfl
theorem last_one (P : List Bs) (k : Nat) (p : Bs) (h : P[k]? = some p) : (P.take (k + 1)).getLastD [] = p := by
  rw [take_one P k p h]; simp
theorem fold_none (P : List Bs) (k : Nat) (h : (P.take k).foldl stepP (some []) = none) : cleanP P = none := by
  have e : P.foldl stepP (some []) = none := by
    rw [← List.take_append_drop k P, List.foldl_append, h, stepP_none]
  rw [cleanP, e]; rfl
theorem joinP_split : ∀ (l : Bs), joinP (splitL 47 l) = 47 :: l
  | [] => rfl
  | b :: l => by
    have ih := joinP_split l
    rw [splitL]
    split
    · rename_i h; subst h
      simp only [joinP, List.flatMap_cons] at ih ⊢
      rw [ih]; rfl
    · obtain ⟨p, ps, h1⟩ := List.exists_cons_of_ne_nil (splitL_ne 47 l)
      rw [h1] at ih ⊢
      simp only [joinP, List.flatMap_cons, List.cons_append, List.cons.injEq, true_and] at ih ⊢
      exact ih
theorem joinP_app (a b : List Bs) : joinP (a ++ b) = joinP a ++ joinP b := by simp [joinP]
theorem joinP_take (P : List Bs) (k : Nat) : (joinP (P.take k)).length ≤ (joinP P).length := by
  have : joinP P = joinP (P.take k) ++ joinP (P.drop k) := by rw [← joinP_app, List.take_append_drop]
  rw [this, List.length_append]; omega
theorem joinP_last (ps : List Bs) : (joinP ps.dropLast).length ≤ (joinP ps).length := by
  rw [List.dropLast_eq_take]; exact joinP_take ps _
theorem joinP_nil (ps : List Bs) (t : ByteArray) (h : t.data.toList = joinP ps) : t.toList.isEmpty = ps.isEmpty := by
  rw [ByteArray.toList_eq, h]
  cases ps <;> simp [joinP]
theorem joinP_one (ps : List Bs) (k : Nat) (p : Bs) (h : ps[k]? = some p) : joinP (ps.take (k + 1)) = joinP (ps.take k) ++ 47 :: p := by
  rw [take_one ps k p h]; simp [joinP]
theorem cln_yes (t : ByteArray) (ps : List Bs) (last : Bs) (ht : t.data.toList = joinP ps) (hb : (dirP last || ps.isEmpty) = true) : Value.tuple #[.string (t ++ ⟨#[47]⟩), .bool true] = clnR (some (endP ps last)) := by
  have e : (t ++ ⟨#[47]⟩ : ByteArray) = ⟨(joinP ps ++ [47]).toArray⟩ := str_ext (by rw [app_data, ht])
  rw [e, endP, hb]; rfl
theorem cln_no (t : ByteArray) (ps : List Bs) (last : Bs) (ht : t.data.toList = joinP ps) (hb : (dirP last || ps.isEmpty) = false) : Value.tuple #[.string t, .bool true] = clnR (some (endP ps last)) := by
  have e : t = ⟨(joinP ps).toArray⟩ := str_ext ht
  rw [e, endP, hb]; simp [clnR]
set_option maxHeartbeats 4000000 in
theorem tgt_Clean (s : ByteArray) (w : World) (hs : s.size < 4294967281) (hm : ML w) :
    Calls Tryz.prog 141 #[.string s] w fun e w' => e = .returned (clnR (cleanL s.data.toList)) ∧ Below w.heap.size w w' := by
  have hd : (s = ⟨#[]⟩) ∨ (0 < s.size) := by
    rcases Nat.eq_zero_or_pos s.size with h | h
    · exact .inl (empty_size h)
    · exact .inr h
  rcases hd with rfl | hd
  · go_enter Tryz.func141, Tryz.ntmps141
    go_wp2
    go_ret2
    exact ⟨rfl, Below.refl _ _⟩
  · obtain ⟨b, hb, hbt⟩ := drop_bt s 0 hd
    rw [List.drop_zero] at hb
    have hne := ne_isEmpty hd
    have hbs := PlainAid.get_bt s
    by_cases h47 : b = 47
    · subst h47
      have hq : PlainAid.bt s 0 = 47 := hbt
      have hC : cleanL s.data.toList = cleanP (splitL 47 s.data.toList) := by rw [cleanL, hb]; rfl
      have HC := Lib.hid hC
      have hlen : (splitL 47 s.data.toList).length ≤ 4294967281 := by
        rw [splitL_len]
        have := List.count_le_length (a := (47 : UInt8)) (l := s.data.toList)
        rw [len_data] at this
        omega
      have hpos : 0 < (splitL 47 s.data.toList).length := by rw [splitL_len]; omega
      clear hC hbt hb
      go_enter Tryz.func141, Tryz.ntmps141
      go_wp2_with fail
      refine (lib_split1 s 47 w hs hm).mono ?_
      rintro e w1 ⟨rfl, hr, L1⟩
      have hJP : (joinP (splitL 47 s.data.toList)).length = s.size + 1 := by rw [joinP_split, List.length_cons, len_data]
      generalize hP : splitL 47 s.data.toList = P at *
      clear hP
      have HJP := Lib.hid hJP
      clear hJP
      obtain ⟨g, o, hA, hg, hcells⟩ := hr.2 hpos
      injection hA with hA
      injection hA with hA1 hA2
      subst hA1; subst hA2
      clear hr
      have HX := Lib.hid hcells
      clear hcells
      go_wp2
      go_loopw [4, 5, 21] (fun v l i wr => ∃ (k : Nat) (ps : List Bs) (last : Bs), k ≤ P.length ∧ i = .int .i64 k ∧ l = sv last ∧ OS wr w1.heap.size v ps ∧ ps.length ≤ k ∧ Hid ((P.take k).foldl stepP (some []) = some ps) ∧ Hid ((P.take k).getLastD [] = last) ∧ Hid ((joinP ps).length ≤ (joinP (P.take k)).length) ∧ Below w1.heap.size w1 wr) (fun _ _ i _ => P.length - (intOf i).toNat)
      case atStart => exact ⟨0, [], [], Nat.zero_le _, rfl, rfl, OS.nil _ _, Nat.le_refl _, rfl, rfl, Nat.le_refl _, Below.refl _ _⟩
      case round =>
        obtain ⟨k, ps, last, hk, rfl, rfl, ho, hl, H, HL, HZ, M⟩ := hrel
        have L := stepW L1 M
        have hS := M.size
        by_cases hlt : k < P.length
        · obtain ⟨p, hp⟩ : ∃ p, P[k]? = some p := ⟨P[k], List.getElem?_eq_getElem hlt⟩
          have hcell : wr.cell? ⟨w.heap.size, k, none⟩ = some (tv p) := by
            rw [M.cell (p := ⟨w.heap.size, k, none⟩) hg]
            have := HX.out k (tv p) (by simp [hp])
            simpa using this
          have HF := Lib.hid (fold_one P k p ps hp H.out)
          have HL' := Lib.hid (last_one P k p hp)
          have HZ' := Lib.hid (show (joinP (P.take (k + 1))).length = (joinP (P.take k)).length + (p.length + 1) by rw [joinP_one P k p hp]; simp)
          clear H HL hp
          by_cases p1 : p = []
          · subst p1
            go_wp2
            go_roundw
            case rel => exact ⟨k + 1, ps, [], by omega, by go_num, rfl, ho, by omega, HF, HL', by rw [HZ'.out]; exact Nat.le_trans HZ.out (by omega), M⟩
            case measure => simp [intOf]; omega
          by_cases p2 : p = [46]
          · subst p2
            go_wp2
            go_roundw
            case rel => exact ⟨k + 1, ps, [46], by omega, by go_num, rfl, ho, by omega, HF, HL', by rw [HZ'.out]; exact Nat.le_trans HZ.out (by omega), M⟩
            case measure => simp [intOf]; omega
          have e1 : List.isEmpty p = false := by simp [p1]
          have e2 : (p == [46]) = false := by simpa using p2
          by_cases p3 : p = [46, 46]
          · subst p3
            by_cases pz : ps = []
            · subst pz
              have HN := Lib.hid (fold_none P (k + 1) HF.out)
              obtain ⟨A, c, rfl, hc1, hc2, hrd⟩ := ho.form
              go_wp2
              go_ret2
              exact ⟨by rw [HC.out, HN.out]; rfl, L⟩
            · have hps : 0 < ps.length := List.length_pos_iff.2 pz
              have hl0 : ((ps.length : Int) == 0) = false := by rw [Bool.eq_false_iff]; intro h; have := beq_iff_eq.1 h; omega
              obtain ⟨g, c, rfl, ho'⟩ := Own.cut ho (k := ps.length - 1) (by omega) hps
              obtain ⟨A, c', e', hc1, hc2, hrd⟩ := ho.form
              injection e' with e1' e2' e3'
              subst e3'
              clear hrd e1' e2'
              have ho2 : OS wr w1.heap.size (.slice (some ⟨g, 0, none⟩) (ps.length - 1) c) ps.dropLast := by
                unfold OS
                rw [List.length_dropLast]
                have : (ps.map tv).take ((ps.length - 1) * 1) = ps.dropLast.map tv := by rw [Nat.mul_one, List.dropLast_eq_take, List.map_take]
                rw [← this]
                exact ho'
              have HF2 : Hid ((P.take (k + 1)).foldl stepP (some []) = some ps.dropLast) := by
                rw [HF.out, stepP, Option.bind_some, if_neg (by simp), if_pos rfl, if_neg pz]; exact Lib.hid rfl
              clear HF
              go_wp2
              go_roundw
              case rel => exact ⟨k + 1, ps.dropLast, [46, 46], by omega, by go_num, rfl, ho2, by rw [List.length_dropLast]; omega, HF2, HL', by rw [HZ'.out]; exact Nat.le_trans (joinP_last ps) (Nat.le_trans HZ.out (by omega)), M⟩
              case measure => simp [intOf]; omega
          · have e3 : (p == [46, 46]) = false := by simpa using p3
            have HF2 : Hid ((P.take (k + 1)).foldl stepP (some []) = some (ps ++ [p])) := by
              rw [HF.out, stepP, Option.bind_some, if_neg (by simp [p1, p2]), if_neg p3]; exact Lib.hid rfl
            clear p1 p2 p3 HF
            go_wp2_with (at_builtin; go_must (refine wp_appS1 rfl _ _ rfl w1.heap.size _ ps rfl ho _ rfl ⟨p.toArray⟩ rfl (by omega) hS ?_); intro v' w2 ho2 hx)
            have K2 : Below w1.heap.size wr w2 := hx.below ho (Nat.le_refl _) hS
            go_roundw
            case rel => exact ⟨k + 1, ps ++ [p], p, by omega, by go_num, rfl, ho2, by simp; omega, HF2, HL', by rw [HZ'.out, joinP_app, List.length_append]; exact Nat.add_le_add HZ.out (by simp [joinP]), M.trans K2⟩
            case measure => simp [intOf]; omega
        · have hkP : P.take k = P := List.take_of_length_le (by omega)
          rw [hkP] at H HL HZ
          have hzz : (joinP ps).length ≤ 4294967282 := Nat.le_trans HZ.out (by rw [HJP.out]; omega)
          have HZZ := Lib.hid hzz
          clear hzz
          have HE : Hid (cleanP P = some (endP ps last)) := by rw [cleanP, H.out, HL.out]; exact Lib.hid rfl
          clear H HL HZ hkP HX
          obtain ⟨A, c, rfl, hc1, hc2, hrd⟩ := ho.form
          have hrd2 := Lib.hid hrd
          clear hrd ho
          go_wp2
          go_loop [8, 47] (fun v i => ∃ (j : Nat) (t : ByteArray), j ≤ ps.length ∧ i = .int .i64 j ∧ v = .string t ∧ Hid (t.data.toList = joinP (ps.take j))) (fun _ i => ps.length - (intOf i).toNat)
          case atStart => exact ⟨0, ⟨#[]⟩, Nat.zero_le _, rfl, rfl, rfl⟩
          case round =>
            obtain ⟨j, t, hj, rfl, rfl, HT⟩ := hrel
            by_cases hjt : j < ps.length
            · obtain ⟨q, hq⟩ : ∃ q, ps[j]? = some q := ⟨ps[j], List.getElem?_eq_getElem hjt⟩
              obtain ⟨g, o, rfl, hg2, hcs⟩ := hrd2.out.2 (by omega)
              have hcell : wr.cell? ⟨g, o + j, none⟩ = some (tv q) := hcs j (tv q) (by simp [hq])
              have HJ := Lib.hid (joinP_one ps j q hq)
              have hz1 : (joinP (ps.take (j + 1))).length ≤ 4294967282 := Nat.le_trans (joinP_take ps _) HZZ.out
              rw [HJ.out, List.length_append, List.length_cons, ← HT.out, len_data] at hz1
              have hz2 : t.size ≤ 4294967282 := by omega
              have hz3 : q.length ≤ 4294967282 := by omega
              clear hz1
              clear hcs hq
              go_wp2
              go_round
              case rel => exact ⟨j + 1, _, by omega, by go_num, rfl, by rw [HJ.out, app_data, app_data, HT.out]; exact Lib.hid rfl⟩
              case measure => simp [intOf]; omega
            · have hT : t.data.toList = joinP ps := by rw [HT.out, List.take_of_length_le (by omega)]
              have HT' := Lib.hid hT
              have hTe := joinP_nil ps t hT
              have HTe := Lib.hid hTe
              have hz2 : t.size ≤ 4294967282 := by rw [← len_data, hT]; exact HZZ.out
              clear HT hT hTe
              cases hq : (dirP last || ps.isEmpty)
              · have hq2 := hq
                have HQ := Lib.hid hq
                simp only [dirP, Bool.or_eq_false_iff] at hq2
                obtain ⟨⟨⟨q1, q2⟩, q3⟩, q4⟩ := hq2
                have q1' : List.isEmpty last = false := by cases last with | nil => simp at q1 | cons => rfl
                have q4' : t.toList.isEmpty = false := HTe.out.trans q4
                clear q1 hq
                go_wp2
                go_ret2
                exact ⟨by rw [HC.out, HE.out]; exact congrArg Ending.returned (cln_no t ps last HT'.out HQ.out), L⟩
              · have HQ := Lib.hid hq
                clear hq
                go_wp2
                all_goals first
                  | (go_ret2; exact ⟨by rw [HC.out, HE.out]; exact congrArg Ending.returned (cln_yes t ps last HT'.out HQ.out), L⟩)
                  | (exfalso; have hh := HQ.out; rw [← HTe.out] at hh; simp [dirP, *] at hh)
    · have hC : cleanL s.data.toList = none := by rw [cleanL, hb, if_neg (by simpa using h47)]
      have HC := Lib.hid hC
      have hne2 : ((b.toNat : Int) != 47) = true := by
        rw [bne_iff_ne]; intro h; exact h47 (u8inj (by simp; omega))
      clear hC hb h47
      go_enter Tryz.func141, Tryz.ntmps141
      go_wp2
      go_ret2
      exact ⟨by rw [HC.out]; rfl, Below.refl _ _⟩
end Go.Proofs.YtmnnbfaaaifcoaaGreatDoor
