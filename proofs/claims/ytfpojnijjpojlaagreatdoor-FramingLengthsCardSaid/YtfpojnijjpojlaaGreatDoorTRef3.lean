/- usherref11.Clean. -/
import Derived.Test.YtfpojnijjpojlaaGreatDoorTRef2
import Derived.Test.YtfpojnijjpojlaaGreatDoorTgt3
namespace Go.Proofs.YtfpojnijjpojlaaGreatDoor
open Go.RowKit
set_option maxRecDepth 100000
set_option maxHeartbeats 2000000

theorem Own.emp (w : World) (g : Nat) (hg : g = w.heap.size) (base : Nat) (hb : base ≤ w.heap.size) (e : TypeId) (size : Nat) : Own (w.alloc (.cells #[] e)) base e size (.slice (some ⟨g, 0, none⟩) 0 0) 0 [] :=
  ⟨by simp, .inr ⟨g, 0, #[], (0, 0), rfl, by omega, hg ▸ heap_alloc_new w _, .inl (Nat.le_refl _), Nat.le_refl _, Nat.zero_le _, by simp, by simp⟩⟩
/-- The pieces from f on. -/
def tailP (l : Bs) (f : Nat) : List Bs := if f ≤ l.length then splitL 47 (l.drop f) else []
theorem tailP_step (l : Bs) (f i : Nat) (hf : f ≤ i) (hi : i ≤ l.length) (hn : ∀ b ∈ (l.drop f).take (i - f), b ≠ 47) (hc : i = l.length ∨ l[i]? = some 47) : tailP l f = (l.drop f).take (i - f) :: tailP l (i + 1) := by
  rw [tailP, if_pos (by omega)]
  rcases hc with h | h
  · rw [tailP, if_neg (by omega)]
    have : (l.drop f).take (i - f) = l.drop f := List.take_of_length_le (by rw [List.length_drop]; omega)
    rw [this] at hn ⊢
    exact splitL_free 47 _ hn
  · have hlt : i < l.length := by
      rcases Nat.lt_or_ge i l.length with h1 | h1
      · exact h1
      · rw [List.getElem?_eq_none h1] at h; cases h
    rw [tailP, if_pos (by omega)]
    have e : l.drop f = (l.drop f).take (i - f) ++ 47 :: l.drop (i + 1) := by
      have h1 := List.take_append_drop (i - f) (l.drop f)
      rw [List.drop_drop, show f + (i - f) = i by omega, List.drop_eq_getElem_cons hlt] at h1
      rw [List.getElem?_eq_getElem hlt] at h
      rw [Option.some.inj h] at h1
      exact h1.symm
    generalize (l.drop f).take (i - f) = t at e hn
    rw [e]
    exact splitL_append 47 t _ hn
theorem nosl_step (l : Bs) (f i : Nat) (c : UInt8) (hf : f ≤ i) (h : l[i]? = some c) (hc : c ≠ 47) (hn : ∀ b ∈ (l.drop f).take (i - f), b ≠ 47) : ∀ b ∈ (l.drop f).take (i + 1 - f), b ≠ 47 := by
  intro b hb
  rw [show i + 1 - f = (i - f) + 1 by omega, List.take_add_one, List.getElem?_drop, show f + (i - f) = i by omega, h] at hb
  rcases List.mem_append.1 hb with hb | hb
  · exact hn b hb
  · have : b = c := by simpa using hb
    exact this ▸ hc
theorem tailP_zero (l : Bs) : tailP l 0 = splitL 47 l := by simp [tailP]
theorem tailP_end (l : Bs) : tailP l (l.length + 1) = [] := by rw [tailP, if_neg (by omega)]
theorem piece (S : ByteArray) (l : Bs) (hS : S.data.toList = l ++ [47]) (f i : Nat) (hi : i ≤ l.length) : S.extract f i = ⟨((l.drop f).take (i - f)).toArray⟩ := by
  apply str_ext
  rw [ext_data, hS]
  show _ = (l.drop f).take (i - f)
  rcases Nat.le_total f l.length with h | h
  · rw [List.drop_append_of_le_length h, List.take_append_of_le_length (by rw [List.length_drop]; omega)]
  · rw [show i - f = 0 by omega]; simp

def foldP (P : List Bs) (ps : List Bs) : Option (List Bs) := P.foldl stepP (some ps)
theorem foldP_cons (p : Bs) (P ps : List Bs) : foldP (p :: P) ps = (stepP (some ps) p).bind (foldP P) := by
  unfold foldP
  rw [List.foldl_cons]
  cases stepP (some ps) p with
  | none => exact stepP_none P
  | some q => rfl
theorem stepP_skip (ps : List Bs) (p : Bs) (h : p = [] ∨ p = [46]) : stepP (some ps) p = some ps := by rw [stepP, Option.bind_some, if_pos h]
theorem stepP_up0 : stepP (some []) [46, 46] = none := by rw [stepP, Option.bind_some, if_neg (by simp), if_pos rfl, if_pos rfl]
theorem stepP_up (ps : List Bs) (h : ps ≠ []) : stepP (some ps) [46, 46] = some ps.dropLast := by rw [stepP, Option.bind_some, if_neg (by simp), if_pos rfl, if_neg h]
theorem stepP_add (ps : List Bs) (p : Bs) (h1 : p ≠ []) (h2 : p ≠ [46]) (h3 : p ≠ [46, 46]) : stepP (some ps) p = some (ps ++ [p]) := by rw [stepP, Option.bind_some, if_neg (by simp [h1, h2]), if_neg h3]

set_option maxHeartbeats 4000000 in
theorem ref11_Clean (s : ByteArray) (w : World) (hs : s.size < 4294967281) :
    Calls Tryz.prog 70 #[.string s] w fun e w' => e = .returned (clnR (cleanL s.data.toList)) ∧ Below w.heap.size w w' := by
  have hd : (s = ⟨#[]⟩) ∨ (0 < s.size) := by
    rcases Nat.eq_zero_or_pos s.size with h | h
    · exact .inl (empty_size h)
    · exact .inr h
  rcases hd with rfl | hd
  · go_enter Tryz.func70, Tryz.ntmps70
    go_wp2
    go_ret2
    exact ⟨rfl, Below.refl _ _⟩
  · obtain ⟨b, hb, hbt⟩ := drop_bt s 0 hd
    rw [List.drop_zero] at hb
    have hne := ne_isEmpty hd
    have hbs := PlainAid.get_bt s
    by_cases h47 : b = 47
    · subst h47
      have hq : PlainAid.bt s 0 = 47 := hbt
      obtain ⟨l, hl⟩ : ∃ l, l = s.data.toList.drop 1 := ⟨_, rfl⟩
      have hll : l.length + 1 = s.size := by rw [hl, List.length_drop, len_data]; omega
      obtain ⟨S, hS⟩ : ∃ S : ByteArray, S = s.extract 1 s.size ++ ⟨#[47]⟩ := ⟨_, rfl⟩
      have hSl : S.data.toList = l ++ [47] := by rw [hS, app_data, ext_from, hl]
      have hSs : S.size = l.length + 1 := by rw [← len_data, hSl, List.length_append]; rfl
      have hC : cleanL s.data.toList = (foldP (tailP l 0) []).map fun st => endP st ((tailP l 0).getLastD []) := by
        rw [hb, cleanL_cons, tailP_zero, hl]; rfl
      have HC := Lib.hid hC
      have HS := Lib.hid hS
      have HSl := Lib.hid hSl
      clear hC hbt hb hl hS hSl
      have hSe := HS.out.symm
      go_enter Tryz.func70, Tryz.ntmps70
      go_wp2
      go_loopw [4, 5, 7, 8] (fun v la fr i wr => ∃ (f k : Nat) (ps : List Bs) (last : Bs), f ≤ k ∧ k ≤ l.length + 1 ∧ fr = .int .i64 f ∧ i = .int .i64 k ∧ la = sv last ∧ OS wr w.heap.size v ps ∧ ps.length ≤ k ∧ (k ≤ l.length ∨ f = k) ∧ Hid (∀ b ∈ (l.drop f).take (k - f), b ≠ 47) ∧ Hid (foldP (tailP l 0) [] = foldP (tailP l f) ps) ∧ Hid ((tailP l 0).getLastD [] = (tailP l f).getLastD last) ∧ Hid ((joinP ps).length ≤ f) ∧ Below w.heap.size w wr) (fun _ _ _ i _ => l.length + 1 - (intOf i).toNat)
      case atStart => exact ⟨0, 0, [], [], Nat.le_refl _, Nat.zero_le _, rfl, rfl, rfl, OS.nil _ _, Nat.le_refl _, .inl (Nat.zero_le _), by intro b hb; simp at hb, rfl, rfl, Nat.le_refl _, Below.refl _ _⟩
      case round =>
        obtain ⟨f, k, ps, last, hfk, hk, rfl, rfl, rfl, ho, hpl, hfl, HN, HF, HL, HZ, L⟩ := hrel
        have hSS := L.size
        have hSb := PlainAid.get_bt S
        by_cases hlt : k < l.length + 1
        · obtain ⟨c, hc, hct⟩ := drop_bt S k (by omega)
          have hc8 := u8lt c
          have hfl2 : f ≤ l.length := by omega
          by_cases hc47 : c = 47
          · subst hc47
            have hq2 : PlainAid.bt S k = 47 := hct
            have hk47 : k = l.length ∨ l[k]? = some 47 := by
              rcases (by omega : k = l.length ∨ k < l.length) with h | h
              · exact .inl h
              · rw [HSl.out, List.drop_append_of_le_length (by omega), List.drop_eq_getElem_cons h] at hc
                exact .inr (by rw [List.getElem?_eq_getElem h]; exact congrArg some (List.cons.inj hc).1)
            obtain ⟨p, hp⟩ : ∃ p, p = (l.drop f).take (k - f) := ⟨_, rfl⟩
            have hpe : S.extract f k = ⟨p.toArray⟩ := by rw [piece S l HSl.out f k (by omega), hp]
            have hplen : p.length ≤ k - f := by rw [hp]; exact List.length_take_le _ _
            have hT := tailP_step l f k hfk (by omega) HN.out hk47
            rw [← hp] at hT
            have HF' := Lib.hid (show foldP (tailP l 0) [] = (stepP (some ps) p).bind (foldP (tailP l (k + 1))) by rw [HF.out, hT, foldP_cons])
            have HL' := Lib.hid (show (tailP l 0).getLastD [] = (tailP l (k + 1)).getLastD p by rw [HL.out, hT, List.getLastD_cons])
            have HZ1 : Hid ((joinP ps).length ≤ k + 1) := Nat.le_trans HZ.out (by omega)
            have HN' : Hid (∀ b ∈ (l.drop (k + 1)).take (k + 1 - (k + 1)), b ≠ 47) := by intro b hb; simp at hb
            have HZ' := HZ.out
            clear hc hct hk47 hp hT HN HF HL
            have HZ'' := Lib.hid HZ'
            clear HZ' HZ
            by_cases p1 : p = []
            · have HF2 : Hid (foldP (tailP l 0) [] = foldP (tailP l (k + 1)) ps) := by rw [HF'.out, stepP_skip ps p (.inl p1)]; exact Lib.hid rfl
              subst p1
              go_wp2
              go_roundw
              case rel => exact ⟨k + 1, k + 1, ps, [], by omega, by omega, by go_num, by go_num, rfl, ho, by omega, .inr rfl, HN', HF2, HL', HZ1, L⟩
              case measure => simp [intOf]; omega
            by_cases p2 : p = [46]
            · have HF2 : Hid (foldP (tailP l 0) [] = foldP (tailP l (k + 1)) ps) := by rw [HF'.out, stepP_skip ps p (.inr p2)]; exact Lib.hid rfl
              subst p2
              go_wp2
              go_roundw
              case rel => exact ⟨k + 1, k + 1, ps, [46], by omega, by omega, by go_num, by go_num, rfl, ho, by omega, .inr rfl, HN', HF2, HL', HZ1, L⟩
              case measure => simp [intOf]; omega
            have e1 : List.isEmpty p = false := by simp [p1]
            have e2 : (p == [46]) = false := by simpa using p2
            by_cases p3 : p = [46, 46]
            · subst p3
              by_cases pz : ps = []
              · subst pz
                have HE : Hid (cleanL s.data.toList = none) := by rw [HC.out, HF'.out, stepP_up0]; exact Lib.hid rfl
                obtain ⟨A, c, rfl, hc1, hc2, hrd⟩ := ho.form
                go_wp2
                go_ret2
                exact ⟨by rw [HE.out]; rfl, L⟩
              · have hps : 0 < ps.length := List.length_pos_iff.2 pz
                have hl0 : ((ps.length : Int) == 0) = false := by rw [Bool.eq_false_iff]; intro h; have := beq_iff_eq.1 h; omega
                obtain ⟨g, c, rfl, ho'⟩ := Own.cut ho (k := ps.length - 1) (by omega) hps
                obtain ⟨A, c', e', hc1, hc2, hrd⟩ := ho.form
                injection e' with e1' e2' e3'
                subst e3'
                clear hrd e1' e2'
                have ho2 : OS wr w.heap.size (.slice (some ⟨g, 0, none⟩) (ps.length - 1) c) ps.dropLast := by
                  unfold OS
                  rw [List.length_dropLast]
                  have : (ps.map tv).take ((ps.length - 1) * 1) = ps.dropLast.map tv := by rw [Nat.mul_one, List.dropLast_eq_take, List.map_take]
                  rw [← this]
                  exact ho'
                have HF2 : Hid (foldP (tailP l 0) [] = foldP (tailP l (k + 1)) ps.dropLast) := by rw [HF'.out, stepP_up ps pz]; exact Lib.hid rfl
                clear HF'
                go_wp2
                go_roundw
                case rel => exact ⟨k + 1, k + 1, ps.dropLast, [46, 46], by omega, by omega, by go_num, by go_num, rfl, ho2, by rw [List.length_dropLast]; omega, .inr rfl, HN', HF2, HL', Nat.le_trans (joinP_last ps) HZ1.out, L⟩
                case measure => simp [intOf]; omega
            · have e3 : (p == [46, 46]) = false := by simpa using p3
              have HF2 : Hid (foldP (tailP l 0) [] = foldP (tailP l (k + 1)) (ps ++ [p])) := by rw [HF'.out, stepP_add ps p p1 p2 p3]; exact Lib.hid rfl
              have HZ2 : Hid ((joinP (ps ++ [p])).length ≤ k + 1) := by
                show (joinP (ps ++ [p])).length ≤ k + 1
                have h1 : (joinP [p]).length = p.length + 1 := by simp [joinP]
                have h2 := HZ''.out
                rw [joinP_app, List.length_append, h1]; omega
              clear p1 p2 p3 HF'
              obtain ⟨A, c, rfl, hc1, hc2, hrd⟩ := ho.form
              have hoe : OS (wr.alloc (.cells #[] 9)) w.heap.size (.slice (some ⟨wr.heap.size, 0, none⟩) 0 0) [] := Own.emp wr _ rfl w.heap.size hSS _ 1
              go_wp2_with (first
                | (at_builtin; refine wp_appS (w0 := wr.alloc (.cells #[] 9)) rfl _ _ rfl w.heap.size _ [] rfl hoe (Below.refl _ _) A ps.length c wr.heap.size rfl ps (hrd.alloc (Nat.le_refl _) _) (by simp; omega) (Nat.le_trans hSS (by simp)) ?_; intro v2 w2 ho2 hx2; have L2 : Below w.heap.size w w2 := (L.alloc hSS _).trans (hx2.below hoe (Nat.le_refl _) (Nat.le_trans hSS (by simp))))
                | (at_builtin; refine wp_appS1 rfl _ _ rfl w.heap.size v2 _ rfl ho2 _ rfl ⟨p.toArray⟩ rfl (by simp; omega) L2.size ?_; intro v3 w3 ho3 hx3))
              have L3 : Below w.heap.size w w3 := L2.trans (hx3.below ho2 (Nat.le_refl _) L2.size)
              go_roundw
              case rel => exact ⟨k + 1, k + 1, ps ++ [p], p, by omega, by omega, by go_num, by go_num, rfl, by simpa using ho3, by simp; omega, .inr rfl, HN', HF2, HL', HZ2, L3⟩
              case measure => simp [intOf]; omega
          · have hkl : k < l.length := by
              rcases (by omega : k = l.length ∨ k < l.length) with h | h
              · exfalso
                rw [HSl.out, h, List.drop_append_of_le_length (Nat.le_refl _), List.drop_of_length_le (Nat.le_refl _)] at hc
                simp at hc
                exact hc47 hc.symm
              · exact h
            have hlc : l[k]? = some c := by
              rw [HSl.out, List.drop_append_of_le_length (by omega), List.drop_eq_getElem_cons hkl] at hc
              rw [List.getElem?_eq_getElem hkl]
              exact congrArg some (List.cons.inj hc).1
            have HN' := Lib.hid (nosl_step l f k c hfk hlc hc47 HN.out)
            have hcne : ((c.toNat : Int) != 47) = true := by
              rw [bne_iff_ne]; intro h; exact hc47 (u8inj (by simp; omega))
            clear hc hlc hc47
            go_wp2
            go_roundw
            case rel => exact ⟨f, k + 1, ps, last, by omega, by omega, rfl, by go_num, rfl, ho, by omega, .inl (by omega), HN', HF, HL, HZ, L⟩
            case measure => simp [intOf]; omega
        · have hfe : f = l.length + 1 := by omega
          have HE : Hid (cleanL s.data.toList = some (endP ps last)) := by
            rw [HC.out, HF.out, HL.out, hfe, tailP_end]; exact Lib.hid rfl
          have hzz : (joinP ps).length ≤ 4294967282 := Nat.le_trans HZ.out (by omega)
          have HZZ := Lib.hid hzz
          clear HF HL HZ HN hzz
          obtain ⟨A, c, rfl, hc1, hc2, hrd⟩ := ho.form
          have hrd2 := Lib.hid hrd
          clear hrd ho
          go_wp2
          go_loop [9, 10] (fun v i => ∃ (j : Nat) (t : ByteArray), j ≤ ps.length ∧ i = .int .i64 j ∧ v = .string t ∧ Hid (t.data.toList = joinP (ps.take j))) (fun _ i => ps.length - (intOf i).toNat)
          case atStart => exact ⟨0, ⟨#[]⟩, Nat.zero_le _, rfl, rfl, rfl⟩
          case round =>
            obtain ⟨j, t, hj, rfl, rfl, HT⟩ := hrel
            by_cases hjt : j < ps.length
            · obtain ⟨q, hq⟩ : ∃ q, ps[j]? = some q := ⟨ps[j], List.getElem?_eq_getElem hjt⟩
              obtain ⟨g, o, rfl, hg2, hcs⟩ := hrd2.out.2 (by omega)
              have hcell : wr.cell? ⟨g, o + j, none⟩ = some (tv q) := hcs j (tv q) (by simp [hq])
              have HJ := Lib.hid (joinP_one ps j q hq)
              have hz1 : (joinP (ps.take (j + 1))).length ≤ 4294967282 := Nat.le_trans (joinP_take ps _) HZZ.out
              rw [HJ.out, List.length_append, List.length_cons, ← HT.out, len_data] at hz1
              have hz2 : t.size ≤ 4294967282 := by omega
              have hz3 : q.length ≤ 4294967282 := by omega
              clear hz1
              clear hcs hq
              go_wp2
              go_round
              case rel => exact ⟨j + 1, _, by omega, by go_num, rfl, by rw [HJ.out, app_data, app_data, HT.out]; show joinP (ps.take j) ++ [47] ++ q = _; simp⟩
              case measure => simp [intOf]; omega
            · have hT : t.data.toList = joinP ps := by rw [HT.out, List.take_of_length_le (by omega)]
              have HT' := Lib.hid hT
              have hTe := joinP_nil ps t hT
              have HTe := Lib.hid hTe
              have hz2 : t.size ≤ 4294967282 := by rw [← len_data, hT]; exact HZZ.out
              clear HT hT hTe
              cases hq : (dirP last || ps.isEmpty)
              · have hq2 := hq
                have HQ := Lib.hid hq
                simp only [dirP, Bool.or_eq_false_iff] at hq2
                obtain ⟨⟨⟨q1, q2⟩, q3⟩, q4⟩ := hq2
                have q1' : List.isEmpty last = false := by cases last with | nil => simp at q1 | cons => rfl
                have q4' : t.toList.isEmpty = false := HTe.out.trans q4
                clear q1 hq
                go_wp2
                go_ret2
                exact ⟨by rw [HE.out]; exact congrArg Ending.returned (cln_no t ps last HT'.out HQ.out), L⟩
              · have HQ := Lib.hid hq
                clear hq
                go_wp2
                all_goals first
                  | (go_ret2; exact ⟨by rw [HE.out]; exact congrArg Ending.returned (cln_yes t ps last HT'.out HQ.out), L⟩)
                  | (exfalso; have hh := HQ.out; rw [← HTe.out] at hh; simp [dirP, *] at hh)
    · have hC : cleanL s.data.toList = none := by rw [cleanL, hb, if_neg (by simpa using h47)]
      have HC := Lib.hid hC
      have hne2 : ((b.toNat : Int) != 47) = true := by
        rw [bne_iff_ne]; intro h; exact h47 (u8inj (by simp; omega))
      clear hC hb h47
      go_enter Tryz.func70, Tryz.ntmps70
      go_wp2
      go_ret2
      exact ⟨by rw [HC.out]; rfl, Below.refl _ _⟩
end Go.Proofs.YtfpojnijjpojlaaGreatDoor
