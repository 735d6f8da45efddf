/- usherref18: a whole line. -/
import Derived.Test.YtmjekdnfkgalbaaGreatDoorRgD
import Derived.Test.YtmjekdnfkgalbaaGreatDoorRFldP
import Derived.Deep.CutBlock
namespace Go.Proofs.YtmjekdnfkgalbaaGreatDoor
open Go.RowKit
set_option maxRecDepth 100000
set_option maxHeartbeats 4000000

/-- The reader of a head, at block g. -/
structure XH (w : World) (g base : Nat) (x : RL) (Af : Option Addr) (cf : Nat) : Prop where
  blk : Blk w g 70 (xlC x Af cf (.slice none 0 0) (.slice none 0 0))
  own : OF w base (.slice Af x.f.length cf) x.f
  lo : base ≤ g
  ne : (Value.slice Af x.f.length cf).ownBlock ≠ some g
theorem XH.belowW {w w' : World} {g base : Nat} {x : RL} {Af : Option Addr} {cf : Nat} (h : XH w g base x Af cf) (hb : Below w.heap.size w w') : XH w' g base x Af cf := ⟨h.blk.belowW hb, h.own.belowW hb, h.lo, h.ne⟩
theorem pfxT (c d : UInt8) (s t : Bs) : (c :: s).isPrefixOf (d :: t) = (decide (c = d) && s.isPrefixOf t) := by
  rw [List.isPrefixOf]
  by_cases h : c = d <;> simp [h]
theorem no13 (s T : Bs) (hT : (13 : UInt8) ∉ T) : (s ++ [13]).isPrefixOf T = false := by
  rw [Bool.eq_false_iff]
  intro h
  obtain ⟨t, ht⟩ := List.isPrefixOf_iff_prefix.mp h
  exact hT (by rw [← ht]; simp)
theorem line_is (T : Bs) (hT : (13 : UInt8) ∉ T) (s : Bs) (h : (s ++ [13]).isPrefixOf (T ++ [13]) = true) : s = T := by
  obtain ⟨t, ht⟩ := List.isPrefixOf_iff_prefix.mp h
  rcases List.eq_nil_or_concat t with rfl | ⟨t', c, rfl⟩
  · rw [List.append_nil] at ht
    exact (List.append_inj_left' ht rfl)
  · exfalso
    have h2 : s ++ [13] ++ t' = T := by
      have : (s ++ [13] ++ t') ++ [c] = T ++ [13] := by rw [← ht]; simp
      exact List.append_inj_left' this rfl
    exact hT (by rw [← h2]; simp)
/-- What a line that may come, and is none of Encode's, looks like. -/
theorem may_field (x : RL) (s : Bs) (hm : mayL x (s ++ [13]) = true) (h0 : x.row ≠ 0) (hs : s ≠ []) (h1 : clS.isPrefixOf s = false) (h2 : s ≠ teS) (h3 : s ≠ ccS) (h4 : s ≠ ckS) :
    (∃ n v, s = n ++ 58 :: 32 :: v ∧ (58 : UInt8) ∉ n) ∧ x.f.length < 24 := by
  have hpp : (decide (x.row = 1) && decide (x.f.length < 24) && partL (s ++ [13])) = true := by
    rw [mayL, if_neg h0] at hm
    have e13 : (s ++ [13]).isPrefixOf [13] = false := by
      cases s with
      | nil => exact absurd rfl hs
      | cons c s =>
        rw [List.cons_append, pfxT]
        cases s <;> simp
    rw [if_neg (by rw [e13]; decide)] at hm
    have ecl : (s ++ [13]).isPrefixOf clS = false := no13 s clS (by decide)
    have ecl2 : clS.isPrefixOf (s ++ [13]) = false := by
      rw [Bool.eq_false_iff]
      intro h
      obtain ⟨t, ht⟩ := List.isPrefixOf_iff_prefix.mp h
      rcases List.eq_nil_or_concat t with rfl | ⟨t', c, rfl⟩
      · have : (13 : UInt8) ∈ clS := by rw [List.append_nil] at ht; rw [ht]; simp
        exact absurd this (by decide)
      · have h5 : clS ++ t' = s := by
          have : (clS ++ t') ++ [c] = s ++ [13] := by rw [← ht]; simp
          exact List.append_inj_left' this rfl
        rw [← h5, List.isPrefixOf_iff_prefix.mpr ⟨t', rfl⟩] at h1
        cases h1
    have ete : (s ++ [13]).isPrefixOf (teS ++ [13]) = false := by
      rw [Bool.eq_false_iff]; exact fun h => h2 (line_is teS (by decide) s h)
    have ecc : (s ++ [13]).isPrefixOf (ccS ++ [13]) = false := by
      rw [Bool.eq_false_iff]; exact fun h => h3 (line_is ccS (by decide) s h)
    have eck : (s ++ [13]).isPrefixOf (ckS ++ [13]) = false := by
      rw [Bool.eq_false_iff]; exact fun h => h4 (line_is ckS (by decide) s h)
    rw [ecl, ecl2, ete, ecc, eck] at hm
    cases h9 : (decide (x.row = 1) && decide (x.f.length < 24) && partL (s ++ [13]))
    · rw [h9] at hm
      simp at hm
    · rfl
  rw [Bool.and_eq_true, Bool.and_eq_true, decide_eq_true_eq, decide_eq_true_eq] at hpp
  obtain ⟨⟨-, h24⟩, hp⟩ := hpp
  refine ⟨?_, h24⟩
  rw [partL] at hp
  have hsp := split_at'' tkB (s ++ [13])
  have hta := take_all'' tkB (s ++ [13])
  generalize (s ++ [13]).takeWhile tkB = n at *
  split at hp
  · rename_i hd
    rw [hd, List.append_nil] at hsp
    rw [← hsp, List.all_append] at hta
    simp at hta
    exact absurd hta.2 (by decide)
  · rename_i c v hd
    split at hp
    · cases hp
    · rename_i hc
      have h58 : c = 58 := by
        by_cases h : c = 58
        · exact h
        · exact absurd (.inr (.inl h)) hc
      subst h58
      rw [hd] at hsp
      cases v with
      | nil =>
        exfalso
        have : ([13] : Bs) = [58] := List.append_inj_right' (show s ++ [13] = n ++ [58] from hsp) rfl
        cases this
      | cons d v =>
        rw [partV] at hp
        split at hp
        · rename_i hd32
          subst hd32
          rcases List.eq_nil_or_concat v with rfl | ⟨v', e, rfl⟩
          · exfalso
            have h9 : s ++ [13] = (n ++ [58]) ++ [32] := by rw [hsp]; simp
            have : ([13] : Bs) = [32] := List.append_inj_right' h9 rfl
            cases this
          · refine ⟨n, v', ?_, ?_⟩
            · have h9 : s ++ [13] = (n ++ 58 :: 32 :: v') ++ [e] := by rw [hsp]; simp
              exact List.append_inj_left' h9 rfl
            · intro hmem
              rw [List.all_eq_true] at hta
              exact absurd (hta 58 hmem) (by decide)
        · cases hp
theorem fld_is (n v : Bs) (hn : (58 : UInt8) ∉ n) : fldOf (n ++ 58 :: 32 :: v) = (n, v) := by
  have h1 : ∀ n : Bs, (58 : UInt8) ∉ n → (n ++ 58 :: 32 :: v).takeWhile (· ≠ 58) = n ∧ (n ++ 58 :: 32 :: v).dropWhile (· ≠ 58) = 58 :: 32 :: v := by
    intro n
    induction n with
    | nil => intro _; simp
    | cons c n ih =>
      intro h
      simp only [List.mem_cons, not_or] at h
      obtain ⟨i1, i2⟩ := ih h.2
      have hc : c ≠ 58 := fun e => h.1 e.symm
      rw [List.cons_append, List.takeWhile_cons, List.dropWhile_cons]
      simp [hc]
      exact ⟨by simpa using i1, by simpa using i2⟩
  obtain ⟨i1, i2⟩ := h1 n hn
  rw [fldOf, i1, i2]; rfl
theorem line_24 (x : RL) (s : Bs) (hs : s ≠ []) (hf : x.f.length ≤ 24) : (lineL x s).1.f.length ≤ 24 := by
  rw [lineL]
  split
  · exact hf
  · rename_i hm
    split
    · exact hf
    · rename_i h0
      split
      · exact hf
      · rename_i h1
        split
        · exact hf
        · rename_i h2
          split
          · exact hf
          · rename_i h3
            split
            · exact hf
            · rename_i h4
              have := (may_field x s (by simpa using hm) h0 hs (Bool.eq_false_iff.mpr h1) h2 h3 h4).2
              show (x.f ++ [fldOf s]).length ≤ 24
              rw [List.length_append, List.length_singleton]; omega
theorem line_at (r : Bs) (k : Nat) (h : (10 : UInt8) ∉ r.take k) : lineOf r = (lineOf (r.drop k)).map fun y => (r.take k ++ y.1, y.2) := by
  have e : lineOf r = lineOf (r.take k ++ r.drop k) := by rw [List.take_append_drop]
  rw [e]
  have : ∀ (u r : Bs), (10 : UInt8) ∉ u → lineOf (u ++ r) = (lineOf r).map fun x => (u ++ x.1, x.2) := by
    intro u
    induction u with
    | nil => intro r _; cases h : lineOf r <;> simp [h]
    | cons c u ih =>
      intro r h
      simp only [List.mem_cons, not_or] at h
      rw [List.cons_append, lineOf, if_neg (fun e => h.1 e.symm), ih r h.2]
      cases lineOf r <;> simp
  exact this _ _ h
theorem XH.two {w : World} {g base : Nat} {x : RL} {Af : Option Addr} {cf : Nat} (h : XH w g base x Af cf) (x' : RL) (hf : x'.f = x.f) (i j : Nat) (u v : Value)
    (hb : ((xlC x Af cf (.slice none 0 0) (.slice none 0 0)).setIfInBounds i u).setIfInBounds j v = xlC x' Af cf (.slice none 0 0) (.slice none 0 0)) : XH ((w.setCell ⟨g, i, none⟩ u).setCell ⟨g, j, none⟩ v) g base x' Af cf := by
  have hne : ∀ k, (Value.slice Af x.f.length cf).ownBlock = some k → k ≠ g := fun k hk e => h.ne (by rw [hk, e])
  refine ⟨?_, ?_, h.lo, by rw [hf]; exact h.ne⟩
  · rw [← hb]; exact (h.blk.set_ i u).set_ j v
  · rw [hf]
    exact Own.far (Own.far h.own (p := ⟨g, i, none⟩) hne u) (p := ⟨g, j, none⟩) hne v
theorem XH.twoB {w0 w : World} {g base : Nat} (hlo : base ≤ g) (L : Below base w0 w) (i j : Nat) (u v : Value) : Below base w0 ((w.setCell ⟨g, i, none⟩ u).setCell ⟨g, j, none⟩ v) := (L.setCell hlo u).setCell hlo v
def LineP (x : RL) (s : Bs) (g base : Nat) (w : World) (e : Ending) (w' : World) : Prop :=
  e = .returned (.bool (lineL x s).2) ∧ (∃ Af cf, XH w' g base (lineL x s).1 Af cf) ∧ Below base w w'
theorem r18_line (x : RL) (s : Bs) (g base : Nat) (Af : Option Addr) (cf : Nat) (w : World) (hX : XH w g base x Af cf) (hs : s.length ≤ 999999) (hs0 : s ≠ []) (hf : x.f.length ≤ 24) (hb : base ≤ w.heap.size) :
    Calls Tryz.prog 37 #[.pointer (some ⟨g, 0, none⟩), sv s] w (LineP x s g base w) := by
  obtain ⟨s1, hs1⟩ : ∃ s1, s ++ [13] = s1 := ⟨_, rfl⟩
  have hl1 : s1.length = s.length + 1 := by rw [← hs1]; simp
  have a1 : ∀ w, (Op.stringOp .add ⟨s.toArray⟩ ⟨#[13]⟩).run Tryz.prog w = .ok (.string ⟨s1.toArray⟩) w := add_ruleG s [13] s1 hs1 (by omega)
  have hM := r18_may x s1 g Af cf _ _ w hX.blk (by omega) (by omega)
  have HP : Hid (∀ r, lineL x s = r → ∀ e w', e = .returned (.bool r.2) → (∃ Af cf, XH w' g base r.1 Af cf) → Below base w w' → LineP x s g base w e w') := Lib.hid (by
    intro r hr e w' h1 h2 h3
    subst hr; exact ⟨h1, h2, h3⟩)
  have HL := Lib.hid (show lineL x s = if !mayL x s1 then (x, false)
    else if x.row = 0 then ({ x with st := (firstL s).1, row := 1 }, (firstL s).2.1)
    else if clS.isPrefixOf s then ({ x with len := decV (s.drop 16), row := 2 }, true)
    else if s = teS then ({ x with chunked := true, row := 2 }, true)
    else if s = ccS then ({ x with close := true, row := 3 }, true)
    else if s = ckS then ({ x with keep := true, row := 3 }, true)
    else ({ x with f := x.f ++ [fldOf s] }, true) by rw [lineL, hs1])
  have HMF := Lib.hid (may_field x s)
  rw [hs1] at HMF
  generalize LineP x s g base w = LP at *
  cases hm : mayL x s1
  · rw [hm] at hM HL
    have HP2 := Lib.hid (HP.out _ (HL.out.trans (if_pos rfl)))
    clear HP HL HMF hs1 hm
    go_enter Tryz.func37, Tryz.ntmps37
    go_wp2_with fail
    refine hM.mono ?_
    rintro e w1 ⟨rfl, L1⟩
    go_wp2
    exact HP2.out _ _ rfl ⟨Af, cf, hX.belowW L1⟩ (L1.mono hb)
  · rw [hm] at hM HL
    have HL2 := Lib.hid (HL.out.trans (if_neg (by decide)))
    by_cases h0 : x.row = 0
    · have hFi := fun w => r18_first s w (by omega)
      have HP2 := Lib.hid (HP.out _ (HL2.out.trans (if_pos h0)))
      unfold firstV at hFi
      clear HP HL HL2 HMF hs1 hm
      go_enter Tryz.func37, Tryz.ntmps37
      go_wp2_with fail
      refine hM.mono ?_
      rintro e w1 ⟨rfl, L1⟩
      have X1 := hX.belowW L1
      obtain ⟨x0, x1, x2, x3, x4, x5, x6, x7, x8, f0, f1, f2, f3, f4, -⟩ := X1.blk.c9
      rw [h0] at x4
      go_wp2_with fail
      refine (hFi _).mono ?_
      rintro e w2 ⟨rfl, L2⟩
      have X2 := X1.belowW L2
      obtain ⟨x0, x1, x2, x3, x4, x5, x6, x7, x8, f0, f1, f2, f3, f4, -⟩ := X2.blk.c9
      have X3 := X2.two { x with st := (firstL s).1, row := 1 } rfl 0 4 (.int .i64 (firstL s).1) (.int .i64 1) rfl
      have L3 := XH.twoB X2.lo ((L1.trans (L2.mono L1.size)).mono hb) 0 4 (.int .i64 (firstL s).1) (.int .i64 1)
      go_wp2
      exact HP2.out _ _ rfl ⟨Af, cf, X3⟩ L3
    · have h0' : (x.row == 0) = false := by simpa using h0
      have HL3 := Lib.hid (HL2.out.trans (if_neg h0))
      have hBc := fun w => r18_begins s clS w (by omega) (by decide)
      cases hc : clS.isPrefixOf s
      · rw [hc] at hBc HL3
        have HL4 := Lib.hid (HL3.out.trans (if_neg (by decide)))
        by_cases he : s = teS
        · have q1 : (s == [84, 114, 97, 110, 115, 102, 101, 114, 45, 69, 110, 99, 111, 100, 105, 110, 103, 58, 32, 99, 104, 117, 110, 107, 101, 100]) = true := by rw [he]; rfl
          have HP2 := Lib.hid (HP.out _ (HL4.out.trans (if_pos he)))
          clear HP HL HL2 HL3 HL4 HMF hs1 hm hc h0 he
          go_enter Tryz.func37, Tryz.ntmps37
          go_wp2_with fail
          refine hM.mono ?_
          rintro e w1 ⟨rfl, L1⟩
          have X1 := hX.belowW L1
          obtain ⟨x0, x1, x2, x3, x4, x5, x6, x7, x8, f0, f1, f2, f3, f4, f5, f6, f7, f8⟩ := X1.blk.c9
          have X3 := X1.two { x with chunked := true, row := 2 } rfl 7 4 (.bool true) (.int .i64 2) rfl
          have L3 := XH.twoB X1.lo (L1.mono hb) 7 4 (.bool true) (.int .i64 2)
          go_wp2_with fail
          refine (hBc _).mono ?_
          rintro e w2 ⟨rfl, rfl⟩
          go_wp2
          exact HP2.out _ _ rfl ⟨Af, cf, X3⟩ L3
        · have q1 : (s == [84, 114, 97, 110, 115, 102, 101, 114, 45, 69, 110, 99, 111, 100, 105, 110, 103, 58, 32, 99, 104, 117, 110, 107, 101, 100]) = false := beq_eq_false_iff_ne.mpr he
          have q1' : ¬ s.toArray = #[84, 114, 97, 110, 115, 102, 101, 114, 45, 69, 110, 99, 111, 100, 105, 110, 103, 58, 32, 99, 104, 117, 110, 107, 101, 100] := fun h => he (show s = [84, 114, 97, 110, 115, 102, 101, 114, 45, 69, 110, 99, 111, 100, 105, 110, 103, 58, 32, 99, 104, 117, 110, 107, 101, 100] from by simpa using congrArg Array.toList h)
          have HL5 := Lib.hid (HL4.out.trans (if_neg he))
          have h2 := he
          clear he
          by_cases he : s = ccS
          · have q2 : (s == [67, 111, 110, 110, 101, 99, 116, 105, 111, 110, 58, 32, 99, 108, 111, 115, 101]) = true := by rw [he]; rfl
            clear h2
            have HP2 := Lib.hid (HP.out _ (HL5.out.trans (if_pos he)))
            clear HP HL HL2 HL3 HL4 HMF hs1 hm hc h0 he
            go_enter Tryz.func37, Tryz.ntmps37
            go_wp2_with fail
            refine hM.mono ?_
            rintro e w1 ⟨rfl, L1⟩
            have X1 := hX.belowW L1
            obtain ⟨x0, x1, x2, x3, x4, x5, x6, x7, x8, f0, f1, f2, f3, f4, f5, f6, f7, f8⟩ := X1.blk.c9
            have X3 := X1.two { x with close := true, row := 3 } rfl 5 4 (.bool true) (.int .i64 3) rfl
            have L3 := XH.twoB X1.lo (L1.mono hb) 5 4 (.bool true) (.int .i64 3)
            go_wp2_with fail
            refine (hBc _).mono ?_
            rintro e w2 ⟨rfl, rfl⟩
            go_wp2
            exact HP2.out _ _ rfl ⟨Af, cf, X3⟩ L3
          · have q2 : (s == [67, 111, 110, 110, 101, 99, 116, 105, 111, 110, 58, 32, 99, 108, 111, 115, 101]) = false := beq_eq_false_iff_ne.mpr he
            have q2' : ¬ s.toArray = #[67, 111, 110, 110, 101, 99, 116, 105, 111, 110, 58, 32, 99, 108, 111, 115, 101] := fun h => he (show s = [67, 111, 110, 110, 101, 99, 116, 105, 111, 110, 58, 32, 99, 108, 111, 115, 101] from by simpa using congrArg Array.toList h)
            have HL6 := Lib.hid (HL5.out.trans (if_neg he))
            have h3 := he
            clear he
            by_cases he : s = ckS
            · have q3 : (s == [67, 111, 110, 110, 101, 99, 116, 105, 111, 110, 58, 32, 107, 101, 101, 112, 45, 97, 108, 105, 118, 101]) = true := by rw [he]; rfl
              clear h2 h3
              have HP2 := Lib.hid (HP.out _ (HL6.out.trans (if_pos he)))
              clear HP HL HL2 HL3 HL4 HMF hs1 hm hc h0 he
              go_enter Tryz.func37, Tryz.ntmps37
              go_wp2_with fail
              refine hM.mono ?_
              rintro e w1 ⟨rfl, L1⟩
              have X1 := hX.belowW L1
              obtain ⟨x0, x1, x2, x3, x4, x5, x6, x7, x8, f0, f1, f2, f3, f4, f5, f6, f7, f8⟩ := X1.blk.c9
              have X3 := X1.two { x with keep := true, row := 3 } rfl 6 4 (.bool true) (.int .i64 3) rfl
              have L3 := XH.twoB X1.lo (L1.mono hb) 6 4 (.bool true) (.int .i64 3)
              go_wp2_with fail
              refine (hBc _).mono ?_
              rintro e w2 ⟨rfl, rfl⟩
              go_wp2
              exact HP2.out _ _ rfl ⟨Af, cf, X3⟩ L3
            · have q3 : (s == [67, 111, 110, 110, 101, 99, 116, 105, 111, 110, 58, 32, 107, 101, 101, 112, 45, 97, 108, 105, 118, 101]) = false := beq_eq_false_iff_ne.mpr he
              have q3' : ¬ s.toArray = #[67, 111, 110, 110, 101, 99, 116, 105, 111, 110, 58, 32, 107, 101, 101, 112, 45, 97, 108, 105, 118, 101] := fun h => he (show s = [67, 111, 110, 110, 101, 99, 116, 105, 111, 110, 58, 32, 107, 101, 101, 112, 45, 97, 108, 105, 118, 101] from by simpa using congrArg Array.toList h)
              have HL7 := Lib.hid (HL6.out.trans (if_neg he))
              obtain ⟨⟨n, v, hnv, hn58⟩, -⟩ := HMF.out hm h0 hs0 hc h2 h3 he
              have hfl : fldOf s = (n, v) := by rw [hnv]; exact fld_is n v hn58
              rw [hfl] at HL7
              have HP2 := Lib.hid (HP.out _ HL7.out)
              have hPr := fun w => ref10_Parse ⟨s.toArray⟩ w
              have hFd := fun f w => r18_field n v s f w (by omega) hnv hn58
              clear HP HL HL2 HL3 HL4 HL5 HL6 HL7 HMF hs1 hm hc h0 h2 h3 he hfl hnv hn58
              go_enter Tryz.func37, Tryz.ntmps37
              go_wp2_with fail
              refine hM.mono ?_
              rintro e w1 ⟨rfl, L1⟩
              have X1 := hX.belowW L1
              obtain ⟨x0, x1, x2, x3, x4, x5, x6, x7, x8, f0, f1, f2, f3, f4, f5, f6, f7, f8⟩ := X1.blk.c9
              go_wp2_with fail
              refine (hBc _).mono ?_
              rintro e w2 ⟨rfl, rfl⟩
              go_wp2_with fail
              refine (hPr _).mono ?_
              rintro e w2 ⟨⟨N, M, er, rfl, -⟩, L2⟩
              obtain ⟨Nl, hNl⟩ : ∃ l : Bs, N = ⟨l.toArray⟩ := ⟨N.data.toList, str_eta N⟩
              obtain ⟨Ml, hMl⟩ : ∃ l : Bs, M = ⟨l.toArray⟩ := ⟨M.data.toList, str_eta M⟩
              subst hNl hMl
              clear hPr hM
              go_wp2_with fail
              have X2 := X1.belowW (stepW L2 (allocW (Below.refl _ _) (.cells #[sv Nl, sv Ml] 58)))
              have LA := L1.trans ((stepW L2 (allocW (Below.refl _ _) (.cells #[sv Nl, sv Ml] 58))).mono L1.size)
              have KF := Blk.new w2 58 #[sv Nl, sv Ml]
              obtain ⟨k0, k1, -⟩ := KF.c2
              obtain ⟨x0, x1, x2, x3, x4, x5, x6, x7, x8, f0, f1, f2, f3, f4, f5, f6, f7, f8⟩ := X2.blk.c9
              obtain ⟨W2, hW2⟩ : ∃ W2, w2.alloc (.cells #[sv Nl, sv Ml] 58) = W2 := ⟨_, rfl⟩
              rw [hW2] at X2 LA k0 k1 x0 x1 x2 x3 x4 x5 x6 x7 x8 f0 f1 f2 f3 f4 f5 f6 f7 f8 KF ⊢
              obtain ⟨Q, hQ⟩ : ∃ Q, x.f ++ [(n, v)] = Q := ⟨_, rfl⟩
              have HQ := Lib.hid hQ
              rw [hQ] at HP2
              clear hW2 hQ X1
              go_region_law (first
                | (go_simp
                   go_at_call 73
                   refine (hFd (Nl, Ml) _).mono ?_
                   rintro e w3 ⟨rfl, L3⟩
                   have N3 := stepW (Below.refl W2.heap.size W2).drew L3
                   have X3 := X2.belowW N3
                   obtain ⟨y0, y1, y2, y3, y4, y5, y6, y7, y8, g0, g1, g2, g3, g4, g5, g6, g7, g8⟩ := X3.blk.c9
                   obtain ⟨-, m1, -⟩ := (X3.belowW (allocW (Below.refl _ _) (.cells #[sv n, sv v] 58))).blk.c9)
                | (refine step_appF rfl (.tmp 26) (.tmp 30) rfl base (.slice Af x.f.length cf) x.f rfl X3.own (allocW (Below.refl _ _) _) (some ⟨w3.heap.size, 0, none⟩) 1 1 _ rfl [(n, v)] rfl (Rd.newM w3 _ rfl [sv n, sv v] 58 (0, 0) 1 2 rfl) (by simp; omega) (by have := LA.size; have := N3.size; omega) ?_
                   intro v4 w4 ho4 hx4
                   rw [HQ.out] at ho4
                   obtain ⟨A4, c4, hv4, -, -, -⟩ := ho4.form
                   subst hv4
                   have B4 := X3.blk.fr hx4.fr X3.ne
                   obtain ⟨z0, z1, z2, z3, z4, z5, z6, z7, z8, e0, e1, e2, e3, e4, e5, e6, e7, e8⟩ := B4.c9))
              all_goals
                have hsz := N3.size
                have hne4 : ∀ k, (Value.slice A4 Q.length c4).ownBlock = some k → k ≠ g := by
                  intro k hk e
                  rcases hx4.own k hk with h9 | h9
                  · exact X3.ne (by rw [h9, e])
                  · have := X3.blk.lt; omega
                have X5 : XH (w4.setCell ⟨g, 1, none⟩ (.slice A4 Q.length c4)) g base { x with f := Q } A4 c4 := ⟨B4.set_ 1 _, Own.far ho4 (p := ⟨g, 1, none⟩) hne4 _, X3.lo, fun e => hne4 g e rfl⟩
                have L5 : Below base w (w4.setCell ⟨g, 1, none⟩ (.slice A4 Q.length c4)) := ((LA.mono hb).trans ((N3.mono (Nat.le_trans hb LA.size)).trans (hx4.below X3.own (Nat.le_refl _) (by have := LA.size; omega)))).setCell X3.lo _
                go_wp2
                exact HP2.out _ _ rfl ⟨A4, c4, X5⟩ L5
      · rw [hc] at hBc HL3
        have HP2 := Lib.hid (HP.out _ (HL3.out.trans (if_pos rfl)))
        have hl16 : 16 ≤ s.length := List.IsPrefix.length_le (List.isPrefixOf_iff_prefix.mp hc)
        have hl16' : (16 : Int) ≤ (s.length : Int) := by omega
        have hz : (⟨s.toArray⟩ : ByteArray).size = s.length := size_mk' s
        have hx := drop_extG s 16
        have hN := fun w => ref_Num ⟨(s.drop 16).toArray⟩ w (by show (s.drop 16).toArray.size ≤ _; unfold maxLen; simp; omega)
        rw [show (⟨(s.drop 16).toArray⟩ : ByteArray).data.toList = s.drop 16 from rfl] at hN
        have hnn : (((numR 10 15 (s.drop 16)).getD 0).toNat : Int) = (numR 10 15 (s.drop 16)).getD 0 := by
          cases h : numR 10 15 (s.drop 16) with
          | none => rfl
          | some v =>
            rw [numR] at h
            split at h
            · cases h
            · have := numF_nonneg 10 (by decide) _ 0 v (by decide) h
              rw [Option.getD_some]; omega
        have HNN := Lib.hid (show ((decV (s.drop 16) : Nat) : Int) = (numR 10 15 (s.drop 16)).getD 0 from hnn)
        unfold numV at hN
        clear HP HL HL2 HL3 HMF hs1 hm hc h0 hl16 hnn
        go_enter Tryz.func37, Tryz.ntmps37
        go_wp2_with fail
        refine hM.mono ?_
        rintro e w1 ⟨rfl, L1⟩
        have X1 := hX.belowW L1
        obtain ⟨x0, x1, x2, x3, x4, x5, x6, x7, x8, f0, f1, f2, f3, f4, f5, f6, f7, f8⟩ := X1.blk.c9
        have X3 := X1.two { x with len := decV (s.drop 16), row := 2 } rfl 8 4 (.int .i64 ((decV (s.drop 16) : Nat) : Int)) (.int .i64 2) rfl
        rw [HNN.out] at X3
        have L3 := XH.twoB X1.lo (L1.mono hb) 8 4 (.int .i64 ((numR 10 15 (s.drop 16)).getD 0)) (.int .i64 2)
        go_wp2_with fail
        refine (hBc _).mono ?_
        rintro e w2 ⟨rfl, rfl⟩
        go_wp2_with fail
        refine (hN _).mono ?_
        rintro e w2 ⟨rfl, rfl⟩
        go_wp2
        exact HP2.out _ _ rfl ⟨Af, cf, X3⟩ L3
end Go.Proofs.YtmjekdnfkgalbaaGreatDoor
