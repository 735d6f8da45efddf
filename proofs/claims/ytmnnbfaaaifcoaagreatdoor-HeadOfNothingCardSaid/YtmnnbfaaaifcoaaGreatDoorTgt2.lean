/- target.Decode. -/
import Derived.Test.YtmnnbfaaaifcoaaGreatDoorTgt
import Derived.Test.YtmnnbfaaaifcoaaGreatDoorApp
namespace Go.Proofs.YtmnnbfaaaifcoaaGreatDoor
open Go.RowKit
set_option maxRecDepth 100000
set_option maxHeartbeats 2000000

/-- A result of Decode: the text, and the error. -/
def decR (o : Option Bs) : Value := .tuple #[sv (o.getD []), .int .i64 (if o.isSome then 0 else 8)]
theorem decR_none : decR none = .tuple #[sv [], .int .i64 8] := rfl
theorem decR_some (l : Bs) : decR (some l) = .tuple #[sv l, .int .i64 0] := rfl
def hexO (l : Bs) : Option Int := numR 16 12 l
theorem hex_O (s : ByteArray) (w : World) (hs : s.size ≤ maxLen) :
    Calls Tryz.prog 164 #[.string s] w fun e w' => e = .returned (.tuple #[.int .i64 ((hexO s.data.toList).getD 0), .bool (hexO s.data.toList).isSome]) ∧ Below w.heap.size w w' := asc_Hex s w hs
theorem ext_two (s : ByteArray) (k : Nat) (a b : UInt8) (r : Bs) (h : s.data.toList.drop k = a :: b :: r) : s.extract k (k + 2) = ⟨#[a, b]⟩ := by
  apply str_ext
  rw [ext_data, h, show k + 2 - k = 2 by omega]
  rfl
theorem drop_two (s : ByteArray) (k : Nat) (h : k + 1 < s.size) : ∃ a b : UInt8, s.data.toList.drop k = a :: b :: s.data.toList.drop (k + 2) :=
  ⟨s[k], s[k + 1], by rw [drop_cons s k (by omega), drop_cons s (k + 1) h]⟩
theorem app_map (l : Bs) (x : UInt8) (o : Option Bs) : (o.map (x :: ·)).map (l ++ ·) = o.map (l ++ [x] ++ ·) := by
  cases o <;> simp
theorem tgt_Decode (s : ByteArray) (w : World) (hs : s.size < 4294967281) :
    Calls Tryz.prog 140 #[.string s] w fun e w' => e = .returned (decR (decodeL s.data.toList)) ∧ Below w.heap.size w w' := by
  go_enter Tryz.func140, Tryz.ntmps140
  go_wp2
  go_loopw [4, 5] (fun v i wr => ∃ (k : Nat) (l : Bs), k ≤ s.size ∧ i = .int .i64 k ∧ OB wr w.heap.size v l ∧ l.length ≤ k ∧ Hid (decodeL s.data.toList = (decodeL (s.data.toList.drop k)).map (l ++ ·)) ∧ Below w.heap.size w wr) (fun _ i _ => s.size - (intOf i).toNat)
  case atStart => exact ⟨0, [], Nat.zero_le _, rfl, OB.nil _ _, Nat.le_refl _, by show decodeL s.data.toList = _; simp, Below.refl _ _⟩
  case round =>
    obtain ⟨k, l, hk, rfl, ho, hl, H, L⟩ := hrel
    by_cases hlt : k < s.size
    · obtain ⟨b, hb, hbt⟩ := drop_bt s k hlt
      have hbs := PlainAid.get_bt s
      have hb8 := u8lt b
      by_cases hp : b = 37
      · subst hp
        have hq : PlainAid.bt s k = 37 := hbt
        clear hbt
        by_cases h2 : k + 2 < s.size
        · obtain ⟨x, y, hxy⟩ := drop_two s (k + 1) (by omega)
          have he := ext_two s (k + 1) x y _ hxy
          rw [show k + 1 + 2 = k + 3 from rfl] at he hxy
          have Hb := Lib.hid hb; clear hb
          have Hxy := Lib.hid hxy; clear hxy
          have hD : decodeL s.data.toList = ((pctL x y).bind fun z => (decodeL (s.data.toList.drop (k + 3))).map (z :: ·)).map (l ++ ·) := by rw [H.out, Hb.out, Hxy.out, decodeL_pct]
          have HD := Lib.hid hD
          clear hD H
          cases hpc : pctL x y with
          | none =>
            rw [hpc] at HD
            have hn : hexO [x, y] = none ∨ hexO [x, y] = some 0 := pct_none x y hpc
            go_wp2_with fail
            refine (hex_O ⟨#[x, y]⟩ _ (show (2 : Nat) ≤ maxLen by decide)).mono ?_
            rw [show (⟨#[x, y]⟩ : ByteArray).data.toList = [x, y] from rfl]
            rcases hn with hn | hn
            all_goals
              rw [hn]
              clear hn
              rintro e w1 ⟨rfl, L1⟩
              go_wp2
              go_ret2
              exact ⟨by rw [HD.out]; rfl, stepW L L1⟩
          | some z =>
            rw [hpc] at HD
            obtain ⟨n, hn, hnz, h1, h255⟩ := pct_some x y z hpc
            have hn' : hexO [x, y] = some n := hn
            have Hnz := Lib.hid hnz
            clear hn hnz
            go_wp2_with fail
            refine (hex_O ⟨#[x, y]⟩ _ (show (2 : Nat) ≤ maxLen by decide)).mono ?_
            rw [show (⟨#[x, y]⟩ : ByteArray).data.toList = [x, y] from rfl, hn']
            clear hn'
            rintro e w1 ⟨rfl, L1⟩
            have K1 := stepW L L1
            have ho1 := ho.belowW L1
            have hS := K1.size
            go_wp2_with (at_builtin; refine wp_app1 rfl _ _ rfl w.heap.size _ l rfl ho1 _ rfl _ rfl z Hnz.out (by omega) hS ?_; intro v' w2 ho2 hx)
            go_roundw
            case rel => exact ⟨k + 3, l ++ [z], by omega, by go_num, ho2, by simp; omega, by rw [HD.out, Option.bind_some, app_map]; exact Lib.hid rfl, K1.trans (hx.below ho1 (Nat.le_refl _) hS)⟩
            case measure => simp [intOf]; omega
        · have hD : decodeL s.data.toList = none := by
            rw [H.out, hb]
            have hlen : (s.data.toList.drop (k + 1)).length ≤ 1 := by rw [List.length_drop, len_data]; omega
            match s.data.toList.drop (k + 1), hlen with
            | [], _ => rw [decodeL_short1]; rfl
            | [x], _ => rw [decodeL_short2]; rfl
            | _ :: _ :: _, h => simp at h
          have HD := Lib.hid hD
          clear hD hb H
          go_wp2
          go_ret2
          exact ⟨by rw [HD.out]; rfl, L⟩
      · have hD : decodeL s.data.toList = (decodeL (s.data.toList.drop (k + 1))).map (l ++ [b] ++ ·) := by rw [H.out, hb, decodeL_plain b _ hp, app_map]
        have HD := Lib.hid hD
        have hne : ((b.toNat : Int) == 37) = false := by
          rw [Bool.eq_false_iff]; intro h; exact hp (u8inj (by have := beq_iff_eq.1 h; simp; omega))
        have hS := L.size
        clear hD hb H hp
        go_wp2_with (at_builtin; refine wp_app1 rfl _ _ rfl w.heap.size _ l rfl ho _ rfl _ rfl b rfl (by omega) hS ?_; intro v' w2 ho2 hx)
        go_roundw
        case rel => exact ⟨k + 1, l ++ [b], by omega, by go_num, ho2, by simp; omega, HD, L.trans (hx.below ho (Nat.le_refl _) hS)⟩
        case measure => simp [intOf]; omega
    · have hD : decodeL s.data.toList = some l := by rw [H.out, drop_end s k (by omega)]; simp [decodeL]
      have HD := Lib.hid hD
      clear hD H
      go_wp2_with (refine wp_strOB rfl (.tmp 49) rfl _ _ l rfl ho ?_)
      go_ret2
      exact ⟨by rw [HD.out]; rfl, L⟩
end Go.Proofs.YtmnnbfaaaifcoaaGreatDoor
