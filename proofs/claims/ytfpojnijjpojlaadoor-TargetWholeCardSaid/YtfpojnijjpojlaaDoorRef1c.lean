/- usherref1: texts of numbers; small letters. -/
import Derived.Test.YtfpojnijjpojlaaDoorRef1b
import Derived.Handy
namespace Go.Proofs.YtfpojnijjpojlaaDoor
open Go.RowKit

def hexs : Bs := [48, 49, 50, 51, 52, 53, 54, 55, 56, 57, 97, 98, 99, 100, 101, 102]
def dch (d : Nat) : UInt8 := hexs.getD d 0
def digF (b : Nat) : Nat → Nat → Bs
  | 0, _ => []
  | f + 1, u => if u / b = 0 then [dch (u % b)] else digF b f (u / b) ++ [dch (u % b)]
theorem digF_fuel (b : Nat) (hb : 2 ≤ b) : ∀ (f g u : Nat), u < f → u < g → digF b f u = digF b g u := by
  intro f
  induction f with
  | zero => intro g u h; omega
  | succ f ih =>
    intro g u h1 h2
    cases g with
    | zero => omega
    | succ g =>
      simp only [digF]
      split
      · rfl
      · rename_i h
        have hlt : u / b < u := Nat.div_lt_self (by rcases Nat.eq_zero_or_pos u with h0 | h0; subst h0; simp at h; exact h0) (by omega)
        rw [ih g (u / b) (by omega) (by omega)]
/-- A number in digits. -/
def digs (b u : Nat) : Bs := digF b (u + 1) u
theorem digs_step (b u : Nat) (hb : 2 ≤ b) : digs b u = if u / b = 0 then [dch (u % b)] else digs b (u / b) ++ [dch (u % b)] := by
  unfold digs
  rw [digF]
  split
  · rfl
  · rename_i h
    have hlt : u / b < u := Nat.div_lt_self (by rcases Nat.eq_zero_or_pos u with h0 | h0; subst h0; simp at h; exact h0) (by omega)
    rw [digF_fuel b hb u (u / b + 1) (u / b) hlt (by omega)]
theorem hexs_bt (d : Nat) (h : d < 16) : PlainAid.bt ⟨#[48, 49, 50, 51, 52, 53, 54, 55, 56, 57, 97, 98, 99, 100, 101, 102]⟩ d = ((dch d).toNat : Int) := by
  have : ∀ e : Fin 16, PlainAid.bt ⟨#[48, 49, 50, 51, 52, 53, 54, 55, 56, 57, 97, 98, 99, 100, 101, 102]⟩ e.val = ((dch e.val).toNat : Int) := by decide
  exact this ⟨d, h⟩
theorem pow_bound (m k N : Nat) (h : m * 2 ^ k ≤ N) (hN : N < 2 ^ 63) (hm : k = 0 ∨ 1 ≤ m) : k ≤ 62 := by
  rcases hm with rfl | hm
  · omega
  · have h1 : 2 ^ k ≤ m * 2 ^ k := Nat.le_mul_of_pos_left _ hm
    have h2 : 2 ^ k < 2 ^ 63 := by omega
    have := (Nat.pow_lt_pow_iff_right (by omega : 1 < 2)).1 h2
    omega

theorem info_u8 : (Tryd.prog.info? 5).map (fun i => (i.zero, i.size, i.bytes)) = some (some (.int .u8 0), 1, 1) := by kernel_rfl

/-- What a loop that fills a row of bytes one by one leaves. -/
theorem fill_step (l : Bs) (f : UInt8 → UInt8) (k n : Nat) (b : UInt8) (r : Bs) (hl : l.drop k = b :: r) (hk : k < l.length) (hn : l.length = n) :
    (((l.take k).map (fun b => bv (f b)) ++ List.replicate (n - k) (Value.int .u8 0)).set k (bv (f b))) = (l.take (k + 1)).map (fun b => bv (f b)) ++ List.replicate (n - (k + 1)) (Value.int .u8 0) := by
  have h1 : l.take (k + 1) = l.take k ++ [b] := by
    rw [List.take_succ_eq_append_getElem hk]
    congr 2
    rw [List.drop_eq_getElem_cons hk] at hl
    exact (List.cons.inj hl).1
  rw [h1, List.map_append, List.set_append_right _ _ (by simp; omega)]
  have h2 : n - k = n - (k + 1) + 1 := by omega
  rw [show k - (List.map (fun b => bv (f b)) (l.take k)).length = 0 by simp; omega, h2, List.replicate_succ]
  simp

end Go.Proofs.YtfpojnijjpojlaaDoor
