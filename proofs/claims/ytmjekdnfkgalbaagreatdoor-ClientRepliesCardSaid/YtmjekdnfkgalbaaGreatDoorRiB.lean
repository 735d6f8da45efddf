/- reply.Continue; usherref18.Continue; usherlaw18: heavy. -/
import Derived.Test.YtmjekdnfkgalbaaGreatDoorReF
import Derived.Test.YtmjekdnfkgalbaaGreatDoorRhA
import Derived.Lib.ConvBytes
import Derived.BigQuiet
namespace Go.Proofs.YtmjekdnfkgalbaaGreatDoor
open Go.RowKit
set_option maxRecDepth 100000
set_option maxHeartbeats 4000000

/-- []byte(s), as a rule: what it makes. -/
theorem bytes_ruleR {P : Program} (src dst e : TypeId) (s : ByteArray) (hs : P.underlying src = some .string) (hd : P.underlying dst = some (.slice e)) (he : P.underlying e = some (.int .u8)) (hl : s.size ≤ maxLen) :
    ∃ (C : World → Nat) (F : World → World), (∀ w, (convert src dst (.string s)).run P w = .ok (.slice (some ⟨w.heap.size, 0, none⟩) s.size (C w)) (F w)) ∧
      (∀ (w : World) (base : Nat), base ≤ w.heap.size → Own (F w) base e 1 (.slice (some ⟨w.heap.size, 0, none⟩) s.size (C w)) s.size (s.data.toList.map bv)) ∧ ∀ w, Below w.heap.size w (F w) := by
  refine ⟨fun w => grownCap w s.size 0 e, fun w => Lib.bytesWorld w e s, fun w => Lib.run_convert_string_bytes (P := P) w src dst e s hs hd he, fun w base hb => ?_, fun w => ?_⟩
  · show Own (Lib.bytesWorld w e s) base e 1 (.slice (some ⟨w.heap.size, 0, none⟩) s.size (grownCap w s.size 0 e)) s.size (s.data.toList.map bv)
    have hge := grownCap_ge w s.size 0 e
    have hcm : grownCap w s.size 0 e ≤ maxLen := grownCap_le_maxLen w s.size 0 e hl
    have hcells : (Lib.bytesCells w e s).size = grownCap w s.size 0 e := by
      simp only [Lib.bytesCells, Array.size_append, Array.size_map, Array.size_replicate]
      have : s.data.size = s.size := rfl
      omega
    refine ⟨by simp, .inr ⟨w.heap.size, _, _, _, rfl, hb, Lib.bytesWorld_at_new w e s, .inr (by rw [hcells]; omega), hge, hcm, by rw [hcells]; omega, ?_⟩⟩
    simp only [Lib.bytesCells, Array.toList_append, Array.toList_map, Nat.mul_one]
    rw [List.take_append_of_le_length (by simp), List.take_of_length_le (by simp)]
  · exact below_of_none ⟨rfl, rfl, rfl, by rw [Lib.bytesWorld_size]; omega, fun k hk _ => Lib.bytesWorld_at_old w e s k hk⟩
/-- The word that a body may be sent. -/
def contW : Bs := [72, 84, 84, 80, 47, 49, 46, 49, 32, 49, 48, 48, 32, 67, 111, 110, 116, 105, 110, 117, 101, 13, 10, 13, 10]
theorem ref_Cont (w : World) : Calls Tryz.prog 13 #[] w fun e w' => e = .returned (sv contW) ∧ w' = w := by
  go_enter Tryz.func13, Tryz.ntmps13
  go_wp2
  go_ret
  exact ⟨rfl, rfl⟩
theorem phrase_100 : phraseL 100 = [67, 111, 110, 116, 105, 110, 117, 101] := by decide
theorem rep_Cont (w : World) : Calls Tryz.prog 23 #[] w fun e w' => ∃ c, e = .returned (.slice (some ⟨w.heap.size, 0, none⟩) 25 c) ∧ 25 ≤ c ∧ Own w' w.heap.size 5 1 (.slice (some ⟨w.heap.size, 0, none⟩) 25 c) 25 (contW.map bv) ∧ Below w.heap.size w w' := by
  obtain ⟨C, F, hr, ho, hb⟩ := bytes_ruleR (P := Tryz.prog) 9 22 5 ⟨contW.toArray⟩ Tryz.underlying9 Tryz.underlying22 Tryz.underlying5 (by decide)
  have hcat : ((⟨#[72, 84, 84, 80, 47, 49, 46, 49, 32, 49, 48, 48, 32]⟩ ++ ⟨#[67, 111, 110, 116, 105, 110, 117, 101]⟩ ++ ⟨#[13, 10]⟩ ++ ⟨#[13, 10]⟩ : ByteArray)) = ⟨contW.toArray⟩ := by decide +kernel
  have hr' : ∀ w, (convert 9 22 (.string (⟨#[72, 84, 84, 80, 47, 49, 46, 49, 32, 49, 48, 48, 32]⟩ ++ ⟨#[67, 111, 110, 116, 105, 110, 117, 101]⟩ ++ ⟨#[13, 10]⟩ ++ ⟨#[13, 10]⟩))).run Tryz.prog w = .ok (.slice (some ⟨w.heap.size, 0, none⟩) 25 (C w)) (F w) := fun w => by rw [hcat]; exact hr w
  have ho' := ho w w.heap.size (Nat.le_refl _)
  have hc : 25 ≤ C w := (Own.rdS ho').1
  have hP := sta_Phrase 100 w
  rw [phrase_100] at hP
  go_enter Tryz.func23, Tryz.ntmps23
  go_wp2_with fail
  refine hP.mono ?_
  rintro e w1 ⟨rfl, rfl⟩
  clear hcat hr
  go_wp2
  go_ret
  exact ⟨_, rfl, hc, ho', hb _⟩
theorem heavyF_yes (n : Nat) (f : Fd) (l : List Fd) (h : 4000 < n + 5 + f.1.length + f.2.length) : heavyF n (f :: l) = true := by rw [heavyF, if_pos h]
theorem heavyF_next (n : Nat) (f : Fd) (l : List Fd) (h : ¬ 4000 < n + 5 + f.1.length + f.2.length) : heavyF n (f :: l) = heavyF (n + 5 + f.1.length + f.2.length) l := by rw [heavyF, if_neg h]
theorem law_heavy18 (x : RsP) (w : World) (hR : RsR w x) (hz : ∀ f ∈ x.r.f, f.1.length ≤ 140737488355328 ∧ f.2.length ≤ 140737488355328) (hm : x.cf ≤ maxLen ∧ x.cb ≤ maxLen ∧ x.cp ≤ maxLen) :
    Calls Tryz.prog 20 #[rsW x] w fun e w' => e = .returned (.bool (heavyR x.r)) ∧ Below w.heap.size w w' := by
  obtain ⟨r, Af, cf, Ab, cb, Ap, cp⟩ := x
  have hf1 : r.f.length ≤ cf := hR.cf
  have hb1 : r.b.length ≤ cb := hR.cb
  have hp1 : r.p.length ≤ cp := hR.cp
  unfold maxLen at hm
  have hf2 : r.f.length ≤ 9223372036854775807 := Nat.le_trans hf1 hm.1
  have hb2 : r.b.length ≤ 9223372036854775807 := Nat.le_trans hb1 hm.2.1
  have hp2 : r.p.length ≤ 9223372036854775807 := Nat.le_trans hp1 hm.2.2
  clear hf1 hb1 hp1 hm
  have HZ := Lib.hid hz
  clear hz
  show Calls Tryz.prog 20 #[.agg #[.int .i64 r.st, .slice Af r.f.length cf, .slice Ab r.b.length cb, .slice Ap r.p.length cp]] w fun e w' => e = .returned (.bool (heavyR r)) ∧ Below w.heap.size w w'
  have HV : Hid (heavyR r = (decide (4000 < r.b.length) || decide (500 < r.p.length) || heavyF r.b.length r.f)) := Lib.hid rfl
  go_enter Tryz.func20, Tryz.ntmps20
  go_upto_region 1 with (fail)
  obtain ⟨V, hV⟩ : ∃ V, V = w.alloc (.cells #[.int .i64 r.st, .slice Af r.f.length cf, .slice Ab r.b.length cb, .slice Ap r.p.length cp] 38) := ⟨_, rfl⟩
  rw [← hV]
  have LV : Below w.heap.size w V := by rw [hV]; exact allocW (Below.refl _ _) _
  have BV : Blk V w.heap.size 38 #[.int .i64 r.st, .slice Af r.f.length cf, .slice Ab r.b.length cb, .slice Ap r.p.length cp] := by rw [hV]; exact Blk.new' _ _ rfl _ _
  clear hV
  have RV := hR.belowW LV
  clear hR
  obtain ⟨x0, x1, x2, x3, -⟩ := BV.c4
  by_cases hb : 4000 < r.b.length
  · have hb' : (4000 : Int) < (r.b.length : Int) := by omega
    have HV2 := Lib.hid (show heavyR r = true by rw [HV.out, decide_eq_true hb]; rfl)
    clear hb HV
    go_wp2
    go_ret
    exact ⟨by rw [HV2.out]; rfl, LV⟩
  · have hb' : ¬ (4000 : Int) < (r.b.length : Int) := by omega
    by_cases hp : 500 < r.p.length
    · have hp' : (500 : Int) < (r.p.length : Int) := by omega
      have HV2 := Lib.hid (show heavyR r = true by rw [HV.out, decide_eq_true hp, Bool.or_true]; rfl)
      clear hp HV
      go_wp2
      go_ret
      exact ⟨by rw [HV2.out]; rfl, LV⟩
    · have hp' : ¬ (500 : Int) < (r.p.length : Int) := by omega
      have HV2 := Lib.hid (show heavyR r = heavyF r.b.length r.f by rw [HV.out, decide_eq_false hb, decide_eq_false hp, Bool.or_false, Bool.false_or])
      clear hp HV
      go_wp2_with fail
      go_loopw [3, 4] (fun n i wr => ∃ k m q : Nat, k ≤ r.f.length ∧ m ≤ 4000 ∧ n = .int .i64 m ∧ i = .int .i64 k ∧ Hid (heavyF r.b.length r.f = heavyF m (r.f.drop k)) ∧ wr = V.drewN q) (fun _ i _ => r.f.length - (intOf i).toNat)
      case atStart => exact ⟨0, r.b.length, 0, Nat.zero_le _, by omega, rfl, rfl, Lib.hid rfl, rfl⟩
      case round =>
        obtain ⟨k, m, q, hk, hm, rfl, rfl, H, rfl⟩ := hrel
        by_cases hlt : k < r.f.length
        · obtain ⟨f, hf, hd⟩ := drop_fd hlt
          have HD := Lib.hid hd
          clear hd
          obtain ⟨z1, z2⟩ := HZ.out f (List.mem_of_getElem? hf)
          obtain ⟨b, o, rfl, hbB, y0, y1⟩ := Rd.fd (show Rd V V.heap.size 2 Af r.f.length (fcells r.f) from RV.rf) rfl k f hf
          clear hf
          by_cases hgt : 4000 < m + 5 + f.1.length + f.2.length
          · have hgt' : (4000:Int) < (m:Int) + 5 + (f.1.length:Int) + (f.2.length : Int) := by omega
            have HT := Lib.hid hgt
            clear hgt
            go_wp2
            go_quiet (fail)
            go_wp2
            go_ret
            exact ⟨by rw [HV2.out, H.out, HD.out, heavyF_yes _ _ _ HT.out]; rfl, below_drewN' LV _⟩
          · have hgt' : ¬ (4000:Int) < (m:Int) + 5 + (f.1.length:Int) + (f.2.length : Int) := by omega
            have HT := Lib.hid hgt
            clear hgt
            go_wp2
            go_quiet (fail)
            go_wp2
            go_roundw
            case rel => exact ⟨k + 1, m + 5 + f.1.length + f.2.length, q + nq, by omega, by omega, by go_num, by go_num, Lib.hid (by rw [H.out, HD.out, heavyF_next _ _ _ HT.out]), by simp [World.drewN]⟩
            case measure => simp [intOf]; omega
        · have e : r.f.drop k = [] := List.drop_of_length_le (by omega)
          have H2 := Lib.hid (show heavyF r.b.length r.f = false by rw [H.out, e]; rfl)
          clear H e
          go_wp2
          go_ret
          exact ⟨by rw [HV2.out, H2.out]; rfl, below_drewN' LV _⟩
end Go.Proofs.YtmjekdnfkgalbaaGreatDoor
