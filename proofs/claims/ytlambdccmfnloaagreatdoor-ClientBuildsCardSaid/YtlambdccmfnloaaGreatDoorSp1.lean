/- Rows of requests in memory. -/
import Derived.Test.YtlambdccmfnloaaGreatDoorTk15
namespace Go.Proofs.YtlambdccmfnloaaGreatDoor
open Go.RowKit
set_option maxRecDepth 100000
set_option maxHeartbeats 4000000

/-- A request, and where its rows lie. -/
structure RP where
  r : RQ
  af : Option Addr
  cf : Nat
  ab : Option Addr
  cb : Nat
def RP.cells (x : RP) : List Value := [sv x.r.m, .int .i64 x.r.t.form, sv x.r.t.host, sv x.r.t.path, sv x.r.t.query, .int .i64 x.r.v, .slice x.af x.r.f.length x.cf, .slice x.ab x.r.b.length x.cb, .bool x.r.c, .bool x.r.e]
def rpC : List RP → List Value
  | [] => []
  | x :: l => x.cells ++ rpC l
theorem RP.len (x : RP) : x.cells.length = 10 := rfl
theorem rpC_len : ∀ l : List RP, (rpC l).length = l.length * 10
  | [] => rfl
  | x :: l => by rw [rpC, List.length_append, rpC_len l, x.len, List.length_cons]; omega
theorem rpC_app : ∀ a b : List RP, rpC (a ++ b) = rpC a ++ rpC b
  | [], b => rfl
  | x :: a, b => by rw [List.cons_append, rpC, rpC, rpC_app a b, List.append_assoc]
theorem rpC_take : ∀ (l : List RP) (k : Nat), (rpC l).take (k * 10) = rpC (l.take k)
  | [], k => by simp [rpC]
  | x :: l, 0 => by simp [rpC]
  | x :: l, k + 1 => by
    rw [List.take_succ_cons, rpC, rpC, List.take_append, x.len, List.take_of_length_le (by rw [x.len]; omega), show (k + 1) * 10 - 10 = k * 10 by omega, rpC_take l k]
theorem rpC_drop : ∀ (l : List RP) (k : Nat), (rpC l).drop (k * 10) = rpC (l.drop k)
  | [], k => by simp [rpC]
  | x :: l, 0 => by simp
  | x :: l, k + 1 => by
    rw [List.drop_succ_cons, rpC, List.drop_append, x.len, List.drop_of_length_le (by rw [x.len]; omega), show (k + 1) * 10 - 10 = k * 10 by omega, rpC_drop l k, List.nil_append]
theorem rpC_at : ∀ (l : List RP) (k : Nat) (x : RP), l[k]? = some x → ∀ j, j < 10 → (rpC l)[k * 10 + j]? = x.cells[j]?
  | [], k, x, h, j, _ => by simp at h
  | y :: l, 0, x, h, j, hj => by
    obtain rfl : y = x := by simpa using h
    rw [rpC, Nat.zero_mul, Nat.zero_add, List.getElem?_append_left (by rw [y.len]; exact hj)]
  | y :: l, k + 1, x, h, j, hj => by
    rw [rpC, List.getElem?_append_right (by rw [y.len]; omega), y.len, show (k + 1) * 10 + j - 10 = k * 10 + j by omega]
    exact rpC_at l k x (by simpa using h) j hj
theorem rp_one : ∀ (l : List RP), ∀ u ∈ rpC l, u.oneCell' = true
  | [], u, h => by cases h
  | x :: l, u, h => by
    rw [rpC, List.mem_append] at h
    rcases h with h | h
    · simp only [RP.cells, List.mem_cons, List.not_mem_nil, or_false] at h
      rcases h with h | h | h | h | h | h | h | h | h | h <;> subst h <;> rfl
    · exact rp_one l u h
/-- A row of requests that may be read. -/
structure RR (w : World) (A : Option Addr) (n : Nat) (l : List RP) : Prop where
  rd : Rd w w.heap.size 10 A n (rpC l)
  rq : ∀ x ∈ l, RQR w x.r x.af x.ab
  sz : ∀ x ∈ l, x.r.f.length ≤ 100000 ∧ x.r.b.length ≤ 100000
namespace RR
variable {w w' : World} {A : Option Addr} {n : Nat} {l : List RP}
theorem len (h : RR w A n l) : l.length = n := by have := h.rd.1; rw [rpC_len] at this; omega
theorem belowW (h : RR w A n l) (L : Below w.heap.size w w') : RR w' A n l := ⟨(h.rd.belowW (Nat.le_refl _) L).more L.size, fun x hx => (h.rq x hx).belowW L, h.sz⟩
theorem cut (h : RR w A n l) {k : Nat} (hk : k ≤ n) : RR w A k (l.take k) := by
  have h1 := h.rd.cutTo hk
  rw [rpC_take] at h1
  exact ⟨h1, fun x hx => h.rq x (List.mem_of_mem_take hx), fun x hx => h.sz x (List.mem_of_mem_take hx)⟩
theorem from_ (h : RR w A n l) {k : Nat} (hk : k ≤ n) : RR w (A.map (·.add (k * 10))) (n - k) (l.drop k) := by
  have h1 := h.rd.cutFrom hk
  rw [rpC_drop] at h1
  exact ⟨h1, fun x hx => h.rq x (List.mem_of_mem_drop hx), fun x hx => h.sz x (List.mem_of_mem_drop hx)⟩
theorem part (h : RR w A n l) {k : Nat} (hk : k ≤ n) {V : Option Addr} (hV : 0 < n - k → V = A.map (·.add (k * 10))) : RR w V (n - k) (l.drop k) := by
  have h1 := h.from_ hk
  rcases Nat.eq_zero_or_pos (n - k) with h0 | h0
  · rw [h0] at h1 ⊢
    exact ⟨⟨h1.rd.1, fun h9 => absurd h9 (Nat.lt_irrefl 0)⟩, h1.rq, h1.sz⟩
  · rw [hV h0]; exact h1
/-- A request of the row. -/
theorem at_ (h : RR w A n l) {k : Nat} {x : RP} (hx : l[k]? = some x) : ∃ b o, A = some ⟨b, o, none⟩ ∧ b < w.heap.size ∧ (w.cell? ⟨b, o + k * 10, none⟩ = some (sv x.r.m) ∧ w.cell? ⟨b, o + k * 10 + 1, none⟩ = some (.int .i64 x.r.t.form) ∧ w.cell? ⟨b, o + k * 10 + 2, none⟩ = some (sv x.r.t.host) ∧ w.cell? ⟨b, o + k * 10 + 3, none⟩ = some (sv x.r.t.path) ∧ w.cell? ⟨b, o + k * 10 + 4, none⟩ = some (sv x.r.t.query) ∧ w.cell? ⟨b, o + k * 10 + 5, none⟩ = some (.int .i64 x.r.v) ∧ w.cell? ⟨b, o + k * 10 + 6, none⟩ = some (.slice x.af x.r.f.length x.cf) ∧ w.cell? ⟨b, o + k * 10 + 7, none⟩ = some (.slice x.ab x.r.b.length x.cb) ∧ w.cell? ⟨b, o + k * 10 + 8, none⟩ = some (.bool x.r.c) ∧ w.cell? ⟨b, o + k * 10 + 9, none⟩ = some (.bool x.r.e)) := by
  have hk : k < l.length := (List.getElem?_eq_some_iff.1 hx).1
  obtain ⟨b, o, e, hb, hc⟩ := h.rd.2 (by rw [h.len] at hk; omega)
  have key : ∀ j, j < 10 → ∀ u, x.cells[j]? = some u → w.cell? ⟨b, o + k * 10 + j, none⟩ = some u := fun j hj u hu => by
    have := hc (k * 10 + j) u (by rw [rpC_at l k x hx j hj]; exact hu)
    rwa [← Nat.add_assoc] at this
  exact ⟨b, o, e, hb, key 0 (by decide) _ rfl, key 1 (by decide) _ rfl, key 2 (by decide) _ rfl, key 3 (by decide) _ rfl, key 4 (by decide) _ rfl, key 5 (by decide) _ rfl, key 6 (by decide) _ rfl, key 7 (by decide) _ rfl, key 8 (by decide) _ rfl, key 9 (by decide) _ rfl⟩
end RR
/-- A row of requests that the call owns. -/
def OQ (w : World) (base : Nat) (v : Value) (l : List RP) : Prop := Own w base 27 10 v l.length (rpC l)
theorem OQ.nil (w : World) (base : Nat) : OQ w base (.slice none 0 0) [] := Own.nil w base _ 10
theorem OQ.belowW {w w' : World} {base : Nat} {v : Value} {l : List RP} (h : OQ w base v l) (hb : Below w.heap.size w w') : OQ w' base v l := Own.belowW h hb
theorem OQ.form {w : World} {base : Nat} {v : Value} {l : List RP} (h : OQ w base v l) : ∃ A c, v = .slice A l.length c ∧ l.length ≤ c ∧ c ≤ maxLen ∧ Rd w w.heap.size 10 A l.length (rpC l) := by
  obtain ⟨A, c, h1, h2, h3, h4, -⟩ := Own.rd h
  exact ⟨A, c, h1, h2, h3, h4⟩
theorem info_rq : (Tryz.prog.info? 27).map (fun i => (i.zero, i.size, i.bytes)) = some (some req0, 10, 136) := by kernel_rfl
/-! ### Rows that lie elsewhere -/
theorem RQR.off {w : World} {r : RQ} {AF AB : Option Addr} {X : Nat → Prop} (h : RQR w r AF AB) (hX : ∀ k, X k → w.heap.size ≤ k) : RQO r AF AB X := ⟨h.f.off hX, h.b.off hX⟩
theorem RQO.mono {r : RQ} {AF AB : Option Addr} {X Y : Nat → Prop} (h : RQO r AF AB X) (hs : ∀ k, Y k → X k) : RQO r AF AB Y := ⟨fun h0 a ha hy => h.1 h0 a ha (hs _ hy), fun h0 a ha hy => h.2 h0 a ha (hs _ hy)⟩
theorem RQO.or {r : RQ} {AF AB : Option Addr} {X Y : Nat → Prop} (h : RQO r AF AB X) (k : RQO r AF AB Y) : RQO r AF AB (fun i => X i ∨ Y i) := ⟨fun h0 a ha hy => hy.elim (h.1 h0 a ha) (k.1 h0 a ha), fun h0 a ha hy => hy.elim (h.2 h0 a ha) (k.2 h0 a ha)⟩
theorem RQO.moved {w w' : World} {r : RQ} {AF AB : Option Addr} {S S' : Nat → Prop} (h : RQO r AF AB S) (hq : RQR w r AF AB) (m : Moved S S' w w') : RQO r AF AB S' := (h.or (hq.off (X := fun k => w.heap.size ≤ k) fun _ h => h)).mono m.foot
/-- Requests whose rows lie outside of X. -/
structure RZ (w : World) (X : Nat → Prop) (l : List RP) : Prop where
  rq : ∀ x ∈ l, RQR w x.r x.af x.ab
  out : ∀ x ∈ l, RQO x.r x.af x.ab X
  sz : ∀ x ∈ l, x.r.f.length ≤ 100000 ∧ x.r.b.length ≤ 100000
namespace RZ
variable {w w' : World} {X Y : Nat → Prop} {l : List RP}
theorem nil (w : World) (X : Nat → Prop) : RZ w X [] := ⟨fun _ h => (by cases h), fun _ h => (by cases h), fun _ h => (by cases h)⟩
theorem belowW (h : RZ w X l) (L : Below w.heap.size w w') : RZ w' X l := ⟨fun x hx => (h.rq x hx).belowW L, h.out, h.sz⟩
theorem mono (h : RZ w X l) (hs : ∀ k, Y k → X k) : RZ w Y l := ⟨h.rq, fun x hx => (h.out x hx).mono hs, h.sz⟩
theorem fr (h : RZ w X l) (hf : Fr X w w') : RZ w' X l := ⟨fun x hx => (h.rq x hx).fr (h.out x hx) hf, h.out, h.sz⟩
/-- One part of what is avoided moves. -/
theorem moved {S S' : Nat → Prop} (h : RZ w (fun k => S k ∨ Y k) l) (m : Moved S S' w w') : RZ w' (fun k => S' k ∨ Y k) l :=
  ⟨fun x hx => (h.rq x hx).fr ((h.out x hx).mono fun _ h => .inl h) m.fr, fun x hx => (((h.out x hx).mono fun _ h => .inl h).moved (h.rq x hx) m).or ((h.out x hx).mono fun _ h => .inr h), h.sz⟩
/-- The row itself is grown. -/
theorem ext {S : Nat → Prop} {v v' : Value} (h : RZ w (fun k => S k ∨ v.ownBlock = some k) l) (hx : Ext w w' v v') : RZ w' (fun k => S k ∨ v'.ownBlock = some k) l :=
  ⟨fun x hm => (h.rq x hm).fr ((h.out x hm).mono fun _ h => .inr h) hx.fr, fun x hm => ((h.out x hm).mono fun _ h => .inl h).or ((((h.out x hm).mono fun _ h => .inr h).or ((h.rq x hm).off (X := fun k => w.heap.size ≤ k) fun _ h => h)).mono fun k hk => hx.own k hk), h.sz⟩
theorem app {m : List RP} (h : RZ w X l) (k : RZ w X m) : RZ w X (l ++ m) :=
  ⟨fun x hx => (List.mem_append.1 hx).elim (h.rq x) (k.rq x), fun x hx => (List.mem_append.1 hx).elim (h.out x) (k.out x), fun x hx => (List.mem_append.1 hx).elim (h.sz x) (k.sz x)⟩
theorem one {x : RP} (h : RQR w x.r x.af x.ab) (ho : RQO x.r x.af x.ab X) (hs : x.r.f.length ≤ 100000 ∧ x.r.b.length ≤ 100000) : RZ w X [x] :=
  ⟨fun y hy => by obtain rfl : y = x := by simpa using hy
                  exact h, fun y hy => by obtain rfl : y = x := by simpa using hy
                                          exact ho, fun y hy => by obtain rfl : y = x := by simpa using hy
                                                                   exact hs⟩
end RZ
/-- What stands behind the requests. -/
abbrev rsV (r : RS) : Value := .agg #[.int .i64 r.used, .int .i64 r.phase, .int .i64 r.status]
/-- A request at the head of a block. -/
abbrev RH0 (b : Nat) (x : RP) (w : World) : Prop :=
  w.cell? ⟨b, 0, none⟩ = some (sv x.r.m) ∧ w.cell? ⟨b, 1, none⟩ = some (.int .i64 x.r.t.form) ∧ w.cell? ⟨b, 2, none⟩ = some (sv x.r.t.host) ∧ w.cell? ⟨b, 3, none⟩ = some (sv x.r.t.path) ∧ w.cell? ⟨b, 4, none⟩ = some (sv x.r.t.query) ∧ w.cell? ⟨b, 5, none⟩ = some (.int .i64 x.r.v) ∧ w.cell? ⟨b, 6, none⟩ = some (.slice x.af x.r.f.length x.cf) ∧ w.cell? ⟨b, 7, none⟩ = some (.slice x.ab x.r.b.length x.cb) ∧ w.cell? ⟨b, 8, none⟩ = some (.bool x.r.c) ∧ w.cell? ⟨b, 9, none⟩ = some (.bool x.r.e)
/-- Take of a whole request: where its rows lie. -/
def TakeW (w : World) (g : Nat) (S : Nat → Prop) (p : PS) (e : Ending) (w' : World) : Prop :=
  ∃ (AF : Option Addr) (cF : Nat) (AB : Option Addr) (cB : Nat), e = .returned (.tuple #[rqV (rqOf p) AF cF AB cB, .int .i64 0]) ∧ RQR w' (rqOf p) AF AB ∧ (∀ X : Nat → Prop, (∀ k, X k → k < w.heap.size ∧ ¬ S k) → RQO (rqOf p) AF AB X) ∧ ∃ S', PR w' g S' p0 ∧ Moved S S' w w' ∧ RQO (rqOf p) AF AB S'
theorem prs_TakeW (g : Nat) (S : Nat → Prop) (p : PS) (w : World) (q : PR w g S p) (hi : PInv p) (hp : p.phase = 3) :
    Calls Tryz.prog 19 #[.pointer (some ⟨g, 0, none⟩)] w (TakeW w g S p) := by
  refine (prs_Take_yes g S p w q hp hi).mono ?_
  rintro e w3 ⟨AF, cF, AB, cB, rfl, hr1, hn1, hr2, hn2, S3, q3, m3, hS3⟩
  have hlt : ∀ k, S k → k < w.heap.size := fun k hk => q.lt hk
  have hg : S g := by obtain ⟨x, rfl, -⟩ := q; exact .inl rfl
  refine ⟨AF, cF, AB, cB, rfl, ⟨hr1, hr2⟩, fun X hX => ⟨fun h0 a ha hx => by have := hn1 h0 a ha; have := (hX _ hx).1; omega, fun h0 a ha hx => (hX _ hx).2 (hn2 h0 a ha).1⟩, S3, q3, m3, fun h0 a ha hx => ?_, fun h0 a ha hx => ?_⟩
  · rcases hS3 _ hx with h | ⟨-, h⟩
    · have := hn1 h0 a ha; have := hlt g hg; omega
    · exact h a ha h0 rfl
  · obtain ⟨h1, h2⟩ := hn2 h0 a ha
    rcases hS3 _ hx with h | ⟨h, -⟩
    · exact h2 h
    · have := hlt _ h1; omega
theorem rqv_cells (r : RQ) (AF AB : Option Addr) (cF cB : Nat) : rqV r AF cF AB cB = .agg #[sv r.m, .int .i64 r.t.form, sv r.t.host, sv r.t.path, sv r.t.query, .int .i64 r.v, .slice AF r.f.length cF, .slice AB r.b.length cB, .bool r.c, .bool r.e] := rfl
end Go.Proofs.YtlambdccmfnloaaGreatDoor
