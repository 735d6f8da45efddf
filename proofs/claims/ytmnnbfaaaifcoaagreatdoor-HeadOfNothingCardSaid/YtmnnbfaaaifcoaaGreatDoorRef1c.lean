/- usherref1: texts of numbers; small letters. -/
import Derived.Test.YtmnnbfaaaifcoaaGreatDoorRef1b
import Derived.Handy
namespace Go.Proofs.YtmnnbfaaaifcoaaGreatDoor
open Go.RowKit

def hexs : Bs := [48, 49, 50, 51, 52, 53, 54, 55, 56, 57, 97, 98, 99, 100, 101, 102]
def dch (d : Nat) : UInt8 := hexs.getD d 0
def digF (b : Nat) : Nat → Nat → Bs
  | 0, _ => []
  | f + 1, u => if u / b = 0 then [dch (u % b)] else digF b f (u / b) ++ [dch (u % b)]
theorem digF_fuel (b : Nat) (hb : 2 ≤ b) : ∀ (f g u : Nat), u < f → u < g → digF b f u = digF b g u := by
  intro f
  induction f with
  | zero => intro g u h; omega
  | succ f ih =>
    intro g u h1 h2
    cases g with
    | zero => omega
    | succ g =>
      simp only [digF]
      split
      · rfl
      · rename_i h
        have hlt : u / b < u := Nat.div_lt_self (by rcases Nat.eq_zero_or_pos u with h0 | h0; subst h0; simp at h; exact h0) (by omega)
        rw [ih g (u / b) (by omega) (by omega)]
/-- A number in digits. -/
def digs (b u : Nat) : Bs := digF b (u + 1) u
theorem digs_step (b u : Nat) (hb : 2 ≤ b) : digs b u = if u / b = 0 then [dch (u % b)] else digs b (u / b) ++ [dch (u % b)] := by
  unfold digs
  rw [digF]
  split
  · rfl
  · rename_i h
    have hlt : u / b < u := Nat.div_lt_self (by rcases Nat.eq_zero_or_pos u with h0 | h0; subst h0; simp at h; exact h0) (by omega)
    rw [digF_fuel b hb u (u / b + 1) (u / b) hlt (by omega)]
theorem hexs_bt (d : Nat) (h : d < 16) : PlainAid.bt ⟨#[48, 49, 50, 51, 52, 53, 54, 55, 56, 57, 97, 98, 99, 100, 101, 102]⟩ d = ((dch d).toNat : Int) := by
  have : ∀ e : Fin 16, PlainAid.bt ⟨#[48, 49, 50, 51, 52, 53, 54, 55, 56, 57, 97, 98, 99, 100, 101, 102]⟩ e.val = ((dch e.val).toNat : Int) := by decide
  exact this ⟨d, h⟩
theorem pow_bound (m k N : Nat) (h : m * 2 ^ k ≤ N) (hN : N < 2 ^ 63) (hm : k = 0 ∨ 1 ≤ m) : k ≤ 62 := by
  rcases hm with rfl | hm
  · omega
  · have h1 : 2 ^ k ≤ m * 2 ^ k := Nat.le_mul_of_pos_left _ hm
    have h2 : 2 ^ k < 2 ^ 63 := by omega
    have := (Nat.pow_lt_pow_iff_right (by omega : 1 < 2)).1 h2
    omega

set_option maxRecDepth 100000 in
set_option maxHeartbeats 800000 in
theorem ref_text_10 (n : Int) (N : Nat) (w : World) (hn : (n < 0 ∧ N = 0) ∨ n = N) (hN : N ≤ 9223372036854775807) :
    Calls Tryz.prog 59 #[.int .i64 n, .int .i64 10] w fun e w' => e = .returned (sv (digs 10 N)) ∧ Below w.heap.size w w' := by
  have hcv := run_byte_str (P := Tryz.prog) 61 5 9 Tryz.underlying61 Tryz.underlying5 Tryz.underlying9
  have hn3 : (n < 0 ∧ N = 0) ∨ (n = 0 ∧ N = 0) ∨ (n = N ∧ 0 < N) := by omega
  rcases hn3 with ⟨h0, h00⟩ | ⟨rfl, h00⟩ | ⟨rfl, h00⟩
  all_goals have H00 := Lib.hid h00; clear h00; have hn3 := True.intro; clear hn
  all_goals
    go_enter Tryz.func59, Tryz.ntmps59
    go_wp2
    go_loopw [0, 5] (fun a v wr => ∃ (m : Nat) (s : ByteArray), a = .int .i64 m ∧ v = .string s ∧ m ≤ N ∧ Hid (m * 2 ^ s.size ≤ N) ∧ (s.size = 0 ∨ 1 ≤ m) ∧ Hid (digs 10 N = digs 10 m ++ s.data.toList) ∧ Below w.heap.size w wr) (fun a _ _ => (intOf a).toNat)
    case atStart => exact ⟨N, ⟨#[]⟩, by have := H00.out; go_num, rfl, Nat.le_refl _, show N * 2 ^ 0 ≤ N by omega, .inl rfl, by show digs 10 N = digs 10 N ++ []; rw [List.append_nil], Below.refl _ _⟩
    case round =>
      obtain ⟨m, s, rfl, rfl, hm, Hp, hz, H, hbel⟩ := hrel
      have hs62 := pow_bound m s.size N Hp.out (by omega) hz
      clear hz
      have hbs := PlainAid.get_bt ⟨#[48, 49, 50, 51, 52, 53, 54, 55, 56, 57, 97, 98, 99, 100, 101, 102]⟩
      have hd := hexs_bt (m % 10) (by omega)
      by_cases hq : m / 10 = 0
      · have Hq := Lib.hid hq
        go_wp2
        go_ret
        exact ⟨retS (by rw [H.out, digs_step 10 m (by omega), if_pos Hq.out]), hbel.alloc hbel.size _⟩
      · have Hq := Lib.hid hq
        go_wp2
        go_roundw
        case rel =>
          refine ⟨m / 10, _, by go_num, rfl, by omega, ?_, .inr (by omega), ?_, hbel.alloc hbel.size _⟩
          · show (m / 10) * 2 ^ (⟨#[dch (m % 10)]⟩ ++ s : ByteArray).size ≤ N
            rw [ByteArray.size_append]
            have h1 : (m / 10) * 2 ≤ m := by omega
            have h2 : (m / 10) * 2 * 2 ^ s.size ≤ m * 2 ^ s.size := Nat.mul_le_mul_right _ h1
            have h3 := Hp.out
            have h4 : 2 ^ ((⟨#[dch (m % 10)]⟩ : ByteArray).size + s.size) = 2 * 2 ^ s.size := by
              rw [show (⟨#[dch (m % 10)]⟩ : ByteArray).size = 1 from rfl, Nat.add_comm, Nat.pow_succ, Nat.mul_comm]
            rw [h4, ← Nat.mul_assoc]
            omega
          · show digs 10 N = _
            rw [H.out, digs_step 10 m (by omega), if_neg Hq.out]; simp
        case measure => simp [intOf]; omega

set_option maxRecDepth 100000 in
set_option maxHeartbeats 800000 in
theorem ref_text_16 (n : Int) (N : Nat) (w : World) (hn : (n < 0 ∧ N = 0) ∨ n = N) (hN : N ≤ 9223372036854775807) :
    Calls Tryz.prog 59 #[.int .i64 n, .int .i64 16] w fun e w' => e = .returned (sv (digs 16 N)) ∧ Below w.heap.size w w' := by
  have hcv := run_byte_str (P := Tryz.prog) 61 5 9 Tryz.underlying61 Tryz.underlying5 Tryz.underlying9
  have hn3 : (n < 0 ∧ N = 0) ∨ (n = 0 ∧ N = 0) ∨ (n = N ∧ 0 < N) := by omega
  rcases hn3 with ⟨h0, h00⟩ | ⟨rfl, h00⟩ | ⟨rfl, h00⟩
  all_goals have H00 := Lib.hid h00; clear h00; have hn3 := True.intro; clear hn
  all_goals
    go_enter Tryz.func59, Tryz.ntmps59
    go_wp2
    go_loopw [0, 5] (fun a v wr => ∃ (m : Nat) (s : ByteArray), a = .int .i64 m ∧ v = .string s ∧ m ≤ N ∧ Hid (m * 2 ^ s.size ≤ N) ∧ (s.size = 0 ∨ 1 ≤ m) ∧ Hid (digs 16 N = digs 16 m ++ s.data.toList) ∧ Below w.heap.size w wr) (fun a _ _ => (intOf a).toNat)
    case atStart => exact ⟨N, ⟨#[]⟩, by have := H00.out; go_num, rfl, Nat.le_refl _, show N * 2 ^ 0 ≤ N by omega, .inl rfl, by show digs 16 N = digs 16 N ++ []; rw [List.append_nil], Below.refl _ _⟩
    case round =>
      obtain ⟨m, s, rfl, rfl, hm, Hp, hz, H, hbel⟩ := hrel
      have hs62 := pow_bound m s.size N Hp.out (by omega) hz
      clear hz
      have hbs := PlainAid.get_bt ⟨#[48, 49, 50, 51, 52, 53, 54, 55, 56, 57, 97, 98, 99, 100, 101, 102]⟩
      have hd := hexs_bt (m % 16) (by omega)
      by_cases hq : m / 16 = 0
      · have Hq := Lib.hid hq
        go_wp2
        go_ret
        exact ⟨retS (by rw [H.out, digs_step 16 m (by omega), if_pos Hq.out]), hbel.alloc hbel.size _⟩
      · have Hq := Lib.hid hq
        go_wp2
        go_roundw
        case rel =>
          refine ⟨m / 16, _, by go_num, rfl, by omega, ?_, .inr (by omega), ?_, hbel.alloc hbel.size _⟩
          · show (m / 16) * 2 ^ (⟨#[dch (m % 16)]⟩ ++ s : ByteArray).size ≤ N
            rw [ByteArray.size_append]
            have h1 : (m / 16) * 2 ≤ m := by omega
            have h2 : (m / 16) * 2 * 2 ^ s.size ≤ m * 2 ^ s.size := Nat.mul_le_mul_right _ h1
            have h3 := Hp.out
            have h4 : 2 ^ ((⟨#[dch (m % 16)]⟩ : ByteArray).size + s.size) = 2 * 2 ^ s.size := by
              rw [show (⟨#[dch (m % 16)]⟩ : ByteArray).size = 1 from rfl, Nat.add_comm, Nat.pow_succ, Nat.mul_comm]
            rw [h4, ← Nat.mul_assoc]
            omega
          · show digs 16 N = _
            rw [H.out, digs_step 16 m (by omega), if_neg Hq.out]; simp
        case measure => simp [intOf]; omega

set_option maxHeartbeats 400000 in
theorem ref_Dec (n : Int) (w : World) (h1 : n ≤ 9223372036854775807) :
    Calls Tryz.prog 25 #[.int .i64 n] w fun e w' => e = .returned (sv (digs 10 n.toNat)) ∧ Below w.heap.size w w' := by
  go_enter Tryz.func25, Tryz.ntmps25
  go_wp2_with (go_at_call 59; refine (ref_text_10 n n.toNat _ (by omega) (by omega)).mono ?_; rintro e w' ⟨rfl, hb⟩)
  go_ret
  exact ⟨rfl, hb⟩
theorem info_u8 : (Tryz.prog.info? 5).map (fun i => (i.zero, i.size, i.bytes)) = some (some (.int .u8 0), 1, 1) := by kernel_rfl

/-- What a loop that fills a row of bytes one by one leaves. -/
theorem fill_step (l : Bs) (f : UInt8 → UInt8) (k n : Nat) (b : UInt8) (r : Bs) (hl : l.drop k = b :: r) (hk : k < l.length) (hn : l.length = n) :
    (((l.take k).map (fun b => bv (f b)) ++ List.replicate (n - k) (Value.int .u8 0)).set k (bv (f b))) = (l.take (k + 1)).map (fun b => bv (f b)) ++ List.replicate (n - (k + 1)) (Value.int .u8 0) := by
  have h1 : l.take (k + 1) = l.take k ++ [b] := by
    rw [List.take_succ_eq_append_getElem hk]
    congr 2
    rw [List.drop_eq_getElem_cons hk] at hl
    exact (List.cons.inj hl).1
  rw [h1, List.map_append, List.set_append_right _ _ (by simp; omega)]
  have h2 : n - k = n - (k + 1) + 1 := by omega
  rw [show k - (List.map (fun b => bv (f b)) (l.take k)).length = 0 by simp; omega, h2, List.replicate_succ]
  simp

set_option maxHeartbeats 400000 in
theorem ref_LowerS (s : ByteArray) (w : World) (hs : s.size ≤ 140737488355328) :
    Calls Tryz.prog 91 #[.string s] w fun e w' => e = .returned (sv (lowL s.data.toList)) ∧ Below w.heap.size w w' := by
  obtain ⟨i0, hi, hz0, hz1, hz2⟩ := info_parts info_u8
  go_enter Tryz.func91, Tryz.ntmps91
  go_wp2_with (at_make; refine wpList_make_full _ rfl _ _ 61 rfl w.heap.size 5 i0 (.int .u8 0) 1 Tryz.underlying61 hi hz0 hz1 .i64 .i64 _ _ s.size rfl rfl rfl rfl (by rw [hz2]; omega) (by unfold maxLen; omega) (Nat.le_refl _) ?_; intro w1 hown hg)
  have hown' : Own w1 w.heap.size 5 1 (.slice (some ⟨w.heap.size, 0, none⟩) s.size s.size) s.size ((s.data.toList.take 0).map (fun b => bv (low b)) ++ List.replicate (s.size - 0) (Value.int .u8 0)) := by
    have := Own.of hown
    rw [show (Value.int IntKind.u8 0).cells = #[Value.int .u8 0] from rfl, Nat.mul_one, toList_madeCells_one] at this
    simpa using this
  have hb1 : Below w.heap.size w w1 := (Below.refl _ _).grown hg (Nat.le_refl _) (by simp)
  clear hown hg
  go_loopw [4] (fun i wr => ∃ k : Nat, k ≤ s.size ∧ i = .int .i64 k ∧ Own wr w.heap.size 5 1 (.slice (some ⟨w.heap.size, 0, none⟩) s.size s.size) s.size ((s.data.toList.take k).map (fun b => bv (low b)) ++ List.replicate (s.size - k) (Value.int .u8 0)) ∧ Below w.heap.size w wr) (fun i _ => s.size - (intOf i).toNat)
  case atStart => exact ⟨0, Nat.zero_le _, rfl, hown', hb1⟩
  case round =>
    obtain ⟨k, hk, rfl, ho, hb⟩ := hrel
    clear hown' hb1
    by_cases hlt : k < s.size
    · obtain ⟨b, hd, hbt⟩ := drop_bt s k hlt
      have Hd := Lib.hid hd; clear hd
      have hbs := PlainAid.get_bt s
      have hc := (ho.cellAt k (by omega)).1
      have hf := (ho.cellAt k (by omega)).2
      have hlow := low_num b
      rw [List.getElem?_append_right (by simp; omega), List.getElem?_replicate, if_pos (by simp; omega)] at hc
      go_wp2_with (go_at_call 124; refine (ref_lower _ _ (by omega) (u8lt _)).mono ?_; rintro e w' ⟨rfl, rfl⟩)
      go_roundw
      case rel =>
        have hst := ho.stored k (bv (low b))
        rw [fill_step s.data.toList low k s.size b _ Hd.out (by rw [len_data]; exact hlt) (len_data s)] at hst
        exact ⟨k + 1, by omega, by go_num, hst.1, hb.grown hst.2 hb.size (fun j hj => by cases hj; exact Nat.le_refl _)⟩
      case measure => simp [intOf]; omega
    · obtain rfl : k = s.size := by omega
      have hr : ∃ A c, (Value.slice (some ⟨w.heap.size, 0, none⟩) s.size s.size) = .slice A s.size c ∧ Rd wr wr.heap.size 1 A s.size ((lowL s.data.toList).map bv) := by
        obtain ⟨A, c, e, _, _, hr, _⟩ := ho.rd
        refine ⟨A, c, e, ?_⟩
        rw [List.take_of_length_le (by rw [len_data]; exact Nat.le_refl _), Nat.sub_self, List.replicate_zero, List.append_nil] at hr
        rw [lowL, List.map_map]
        exact hr
      obtain ⟨A, c, e, hr⟩ := hr
      injection e with e1 e2 e3
      subst e1; subst e3
      have hcv := run_str_rd hr s.size 61 5 9 Tryz.underlying61 Tryz.underlying5 Tryz.underlying9
      clear ho hr
      go_wp2
      go_ret
      exact ⟨rfl, hb⟩
end Go.Proofs.YtmnnbfaaaifcoaaGreatDoor
