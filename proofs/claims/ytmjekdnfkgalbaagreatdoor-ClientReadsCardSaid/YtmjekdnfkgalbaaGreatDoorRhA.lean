/- reply: what is written is read again; a part of it ends too early (plain). reply: a whole response that is written is read again (plain). reply: heads, words, sizes (plain). -/
import Derived.Test.YtmjekdnfkgalbaaGreatDoorReQ
import Derived.Test.YtmjekdnfkgalbaaGreatDoorReE
import Derived.Test.YtmjekdnfkgalbaaGreatDoorNum
namespace Go.Proofs.YtmjekdnfkgalbaaGreatDoor
open Go.RowKit
set_option maxRecDepth 100000
set_option maxHeartbeats 4000000

/-- It takes just these bytes, whatever stands behind them; a part of them ends too early. -/
structure Eats {α : Type} (f : Bs → R3 α) (b : Bs) (a : α) : Prop where
  all : ∀ t, f (b ++ t) = .ok a t
  cut : ∀ s c t, b = s ++ c :: t → f s = .short
theorem Eats.bind {α β : Type} {f : Bs → R3 α} {g : α → Bs → R3 β} {b c : Bs} {a : α} {d : β} (hf : Eats f b a) (hg : Eats (g a) c d) : Eats (fun r => (f r).bind g) (b ++ c) d := by
  constructor
  · intro t
    show (f (b ++ c ++ t)).bind g = _
    rw [List.append_assoc, hf.all, R3.bind_ok, hg.all]
  · intro s e t h
    show (f s).bind g = _
    rcases List.append_eq_append_iff.mp h with ⟨u, h1, h2⟩ | ⟨u, h1, h2⟩
    · rw [h1, hf.all, R3.bind_ok]
      exact hg.cut _ _ _ h2
    · cases u with
      | nil =>
        rw [List.append_nil] at h1
        rw [List.nil_append] at h2
        have := hf.all []
        rw [List.append_nil, h1] at this
        rw [this, R3.bind_ok]
        exact hg.cut [] _ _ h2.symm
      | cons x u =>
        rw [hf.cut s x u h1]; rfl
theorem Eats.ok {α : Type} (a : α) : Eats (fun t => R3.ok a t) [] a := ⟨fun _ => rfl, fun s c t h => by cases s <;> cases h⟩
theorem Eats.map {α β : Type} {f : Bs → R3 α} {g : α → Bs → R3 β} {b : Bs} {a : α} {d : β} (hf : Eats f b a) (hg : ∀ t, g a t = .ok d t) : Eats (fun r => (f r).bind g) b d := by
  have : Eats (g a) [] d := by
    rw [show g a = fun t => R3.ok d t from funext hg]; exact Eats.ok d
  have h := Eats.bind hf this
  rwa [List.append_nil] at h
theorem Eats.congr {α : Type} {f g : Bs → R3 α} {b : Bs} {a : α} (h : ∀ r, (∃ t, r = b ++ t) ∨ (∃ c t, b = r ++ c :: t) → f r = g r) (hg : Eats g b a) : Eats f b a :=
  ⟨fun t => by rw [h _ (.inl ⟨t, rfl⟩)]; exact hg.all t, fun s c t e => by rw [h _ (.inr ⟨c, t, e⟩)]; exact hg.cut s c t e⟩
theorem Eats.fuel {α : Type} {F : Nat → Bs → R3 α} {b : Bs} {a : α} (m : Nat) (hF : ∀ n, m < n → Eats (F n) b a) (hm : m ≤ b.length) (hf : ∀ n k r, r.length < n → r.length < k → F n r = F k r) : Eats (fun r => F (r.length + 1) r) b a := by
  constructor
  · intro t
    exact (hF _ (by rw [List.length_append]; omega)).all t
  · intro s c t h
    show F (s.length + 1) s = _
    rw [hf _ (s.length + m + 1) s (by omega) (by omega)]
    exact (hF _ (by omega)).cut s c t h
theorem eats_text (s : Bs) : Eats (textL s) s () := by
  constructor
  · exact text_self s
  · intro u c t h
    have e := text_self u []
    rw [List.append_nil] at e
    rw [h, text_app, e, R3.bind_ok, text_none _ (by simp)]
/-- A byte of the beginning. -/
theorem at_head {b r : Bs} {x : UInt8} (hb : b.head? = some x) (h : (∃ t, r = b ++ t) ∨ (∃ c t, b = r ++ c :: t)) : r = [] ∨ r.head? = some x := by
  rcases h with ⟨t, rfl⟩ | ⟨c, t, rfl⟩
  · right; rw [List.head?_append, hb]; rfl
  · cases r with
    | nil => left; rfl
    | cons y r => right; simpa using hb

/-! ## The first line -/
theorem eats_dig (i : Nat) (st : Int) (c : UInt8) (h : dgB c = true) (hi : i = 0 → dsB c = true) : Eats (digL i st) [c] (10 * st + ((c.toNat : Int) - 48)) := by
  constructor
  · intro t
    show digL i st (c :: t) = _
    by_cases h0 : i = 0
    · subst h0
      rw [digL_in, if_pos (hi rfl)]
    · exact digL_yes i st c t h h0
  · intro s e t he
    cases s with
    | nil => rfl
    | cons y s => simp at he
theorem dig_of (a : Fin 10) : dgB (UInt8.ofNat (48 + a.val)) = true ∧ ((UInt8.ofNat (48 + a.val)).toNat : Int) - 48 = a.val ∧ (2 ≤ a.val → a.val ≤ 5 → dsB (UInt8.ofNat (48 + a.val)) = true) := by
  revert a; decide
theorem eats_status (st : Int) (h1 : 200 ≤ st) (h2 : st ≤ 599) : Eats statusL (startR st) st := by
  obtain ⟨a, b, c, ha, hst⟩ : ∃ a b c : Fin 10, (2 ≤ a.val ∧ a.val ≤ 5) ∧ st = ((100 * a.val + 10 * b.val + c.val : Nat) : Int) := by
    refine ⟨⟨(st / 100).toNat, by omega⟩, ⟨(st / 10 % 10).toNat, by omega⟩, ⟨(st % 10).toNat, by omega⟩, ⟨?_, ?_⟩, ?_⟩
    · show 2 ≤ (st / 100).toNat; omega
    · show (st / 100).toNat ≤ 5; omega
    · show st = ((100 * (st / 100).toNat + 10 * (st / 10 % 10).toNat + (st % 10).toNat : Nat) : Int); omega
  obtain ⟨da, va, sa⟩ := dig_of a
  obtain ⟨db, vb, -⟩ := dig_of b
  obtain ⟨dc, vc, -⟩ := dig_of c
  have hd : digs 10 st.toNat = [UInt8.ofNat (48 + a.val), UInt8.ofNat (48 + b.val), UInt8.ofNat (48 + c.val)] := by
    rw [hst, Int.toNat_natCast]
    exact digs3 a b c (by rintro rfl; exact absurd ha.1 (by decide))
  have he : startR st = begB ++ ([UInt8.ofNat (48 + a.val)] ++ ([UInt8.ofNat (48 + b.val)] ++ ([UInt8.ofNat (48 + c.val)] ++ phrL st))) := by
    rw [startR, hd, phrL]; simp
  have ha' : (10 * (0 : Int) + (((UInt8.ofNat (48 + a.val)).toNat : Int) - 48)) = a.val := by rw [va]; omega
  have hb' : (10 * (a.val : Int) + (((UInt8.ofNat (48 + b.val)).toNat : Int) - 48)) = 10 * a.val + b.val := by rw [vb]
  have hc' : (10 * (10 * (a.val : Int) + b.val) + (((UInt8.ofNat (48 + c.val)).toNat : Int) - 48)) = st := by rw [vc, hst]; push_cast; omega
  have e1 := eats_dig 0 0 _ da (fun _ => sa ha.1 ha.2)
  rw [ha'] at e1
  have e2 := eats_dig 1 (a.val : Int) _ db (by simp)
  rw [hb'] at e2
  have e3 := eats_dig 2 (10 * (a.val : Int) + b.val) _ dc (by simp)
  rw [hc'] at e3
  rw [he]
  exact Eats.bind (eats_text begB) (Eats.bind e1 (Eats.bind e2 (Eats.bind e3 (Eats.map (eats_text (phrL st)) fun t => rfl))))

/-! ## Fields -/
theorem vl13 : vlB 13 = false := by decide
theorem eats_val (v : Bs) (hv : allV v = true) (ht : trimL v = v) : Eats valL (v ++ crlf) v := by
  have hF := trimL_fixF v ht
  rw [allV_vl] at hv
  constructor
  · intro t
    obtain ⟨h1, h2⟩ := take_app vlB 13 vl13 (10 :: t) v hv
    have e : v ++ crlf ++ t = v ++ 13 :: 10 :: t := by simp [crlf]
    rw [e, valL, h1, h2, if_neg (by simpa using hF), if_neg (by simp), if_neg (by simpa using ht)]
    rw [show (13 :: 10 :: t : Bs) = crlf ++ t from rfl, text_self]; rfl
  · intro s c t h
    rcases List.append_eq_append_iff.mp h with ⟨u, h1, h2⟩ | ⟨u, h1, h2⟩
    · -- s = v ++ u, crlf = u ++ c :: t
      cases u with
      | nil =>
        rw [List.append_nil] at h1
        subst h1
        obtain ⟨e1, e2⟩ := take_end vlB s hv
        rw [valL, e1, e2, if_neg (by simpa using hF), if_pos rfl]
      | cons x u =>
        cases u with
        | nil =>
          simp only [crlf, List.cons_append, List.nil_append, List.cons.injEq] at h2
          obtain ⟨rfl, -⟩ := h2
          subst h1
          obtain ⟨e1, e2⟩ := take_app vlB 13 vl13 [] v hv
          rw [valL, e1, e2, if_neg (by simpa using hF), if_neg (by simp), if_neg (by simpa using ht)]; rfl
        | cons y u => simp [crlf] at h2
    · -- v = s ++ u
      have hs : s.all vlB = true := by
        rw [h1, List.all_append, Bool.and_eq_true] at hv; exact hv.1
      obtain ⟨e1, e2⟩ := take_end vlB s hs
      have hFs : trimF s = s := by
        have a1 := trimF_fix v
        rw [decide_eq_true hF] at a1
        have a2 := trimF_fix s
        cases s with
        | nil => rfl
        | cons x s =>
          rw [h1] at a1
          have a3 : decide (trimF (x :: s) = x :: s) = true := by
            rw [a2]
            simpa using a1
          exact of_decide_eq_true a3
      rw [valL, e1, e2, if_neg (by simpa using hFs), if_pos rfl]
theorem own_not (nb : Bool) (n : Bs) (h : ownN n = false) : (oursL nb).contains n = false := by
  cases nb
  · simp only [oursL, Bool.false_eq_true, if_false, List.contains_cons, List.contains_nil, Bool.or_false, Bool.or_eq_false_iff, beq_eq_false_iff_ne]
    exact ⟨by (rintro rfl; rw [own_te] at h; cases h), by (rintro rfl; rw [own_cl] at h; cases h)⟩
  · simp only [oursL, if_true, List.contains_cons, List.contains_nil, Bool.or_false, beq_eq_false_iff_ne]
    rintro rfl; rw [own_co] at h; cases h
theorem full_no (o : List Bs) (nf : Nat) (s : Bs) (h : nf < 24) : fullL o nf s = false := by
  rw [fullL, decide_eq_false (by omega), Bool.false_and]
theorem eats_name (nb : Bool) (nf : Nat) (n : Bs) (hn : allT n = true) (h0 : 0 < n.length) (ho : ownN n = false) (hf : nf < 24) : Eats (nameL (oursL nb) nf) (n ++ csB) n := by
  have hn' : n.all tkB = true := hn
  constructor
  · intro t
    obtain ⟨h1, h2⟩ := take_app tkB 58 tk58 (32 :: t) n hn'
    have e : n ++ csB ++ t = n ++ 58 :: 32 :: t := by simp [csB]
    rw [e, nameL, h1, h2, if_neg (by simp), own_not nb n ho, if_neg (by simp), ho, if_neg (by simp; exact ⟨by rintro rfl; simp at h0, hf⟩)]
    rw [show (58 :: 32 :: t : Bs) = csB ++ t from rfl, text_self]; rfl
  · intro s c t h
    rcases List.append_eq_append_iff.mp h with ⟨u, h1, h2⟩ | ⟨u, h1, h2⟩
    · cases u with
      | nil =>
        rw [List.append_nil] at h1
        subst h1
        obtain ⟨e1, e2⟩ := take_end tkB s hn'
        rw [nameL, e1, e2, if_pos rfl, full_no _ _ _ hf]; rfl
      | cons x u =>
        cases u with
        | nil =>
          simp only [csB, List.cons_append, List.nil_append, List.cons.injEq] at h2
          obtain ⟨rfl, -⟩ := h2
          subst h1
          obtain ⟨e1, e2⟩ := take_app tkB 58 tk58 [] n hn'
          rw [nameL, e1, e2, if_neg (by simp), own_not nb n ho, if_neg (by simp), ho, if_neg (by simp; exact ⟨by rintro rfl; simp at h0, hf⟩)]; rfl
        | cons y u => simp [csB] at h2
    · have hs : s.all tkB = true := by
        rw [h1, List.all_append, Bool.and_eq_true] at hn'; exact hn'.1
      obtain ⟨e1, e2⟩ := take_end tkB s hs
      rw [nameL, e1, e2, if_pos rfl, full_no _ _ _ hf]; rfl
/-- Fields that may be written. -/
def FdsOk (l : List Fd) : Prop := ∀ f ∈ l, isF f = true ∧ ownN f.1 = false
theorem tk_head (n : Bs) (hn : allT n = true) (h0 : 0 < n.length) : ∃ x, n.head? = some x ∧ x ≠ 13 := by
  cases n with
  | nil => simp at h0
  | cons x n =>
    refine ⟨x, rfl, ?_⟩
    have : tkB x = true := by
      have h : (x :: n).all tkB = true := hn
      rw [List.all_cons, Bool.and_eq_true] at h; exact h.1
    exact (tk_no x this).2.1
theorem name_nil (nb : Bool) (nf : Nat) (h : nf < 24) : nameL (oursL nb) nf [] = .short := by
  rw [nameL]; simp [full_no _ _ _ h]
theorem flds_open (nb : Bool) (n : Nat) (fs : List Fd) (r : Bs) (x : UInt8) (hx : x ≠ 13) (hr : r = [] ∨ r.head? = some x) (h : fs.length < 24) :
    fldsL nb (n + 1) fs r = (nameL (oursL nb) fs.length r).bind fun s t => if ownN s then .ok (fs, s) t else (valL t).bind fun v t => fldsL nb n (fs ++ [(s, v)]) t := by
  rw [fldsL]
  rcases hr with rfl | hr
  · rw [name_nil _ _ h]
    cases nb <;> simp [R3.bind]
  · rw [if_neg (by rintro ⟨-, rfl⟩; cases hr), if_neg (by rintro ⟨-, h2⟩; rw [hr] at h2; cases h2; exact hx rfl)]
/-- Fields, and what stands behind them. -/
theorem eats_flds {α : Type} (nb : Bool) (K : List Fd × Bs → Bs → R3 α) (b : Bs) (a : α) : ∀ (l fs : List Fd) (n : Nat), FdsOk l → fs.length + l.length ≤ 24 → l.length < n →
    (∀ m, 0 < m → Eats (fun r => (fldsL nb m (fs ++ l) r).bind K) b a) → Eats (fun r => (fldsL nb n fs r).bind K) (rfsL l ++ b) a
  | [], fs, n, _, _, hn, hb => by
    have := hb n hn
    rwa [List.append_nil] at this
  | f :: l, fs, n, hok, hl, hn, hb => by
    rw [List.length_cons] at hl hn
    obtain ⟨m, rfl⟩ : ∃ m, n = m + 1 := ⟨n - 1, by omega⟩
    obtain ⟨hF, ho⟩ := hok f List.mem_cons_self
    obtain ⟨p1, p2, p3, p4⟩ := isF_parts f hF
    have ih := eats_flds nb K b a l (fs ++ [f]) m (fun g hg => hok g (List.mem_cons_of_mem _ hg)) (by rw [List.length_append, List.length_singleton]; omega) (by omega) (by rw [List.append_assoc]; exact hb)
    have e1 := Eats.bind (eats_val f.2 p3 p4) (g := fun v t => (fldsL nb m (fs ++ [(f.1, v)]) t).bind K) ih
    have e2 := Eats.bind (eats_name nb fs.length f.1 p1 p2 ho (by omega)) (g := fun s t => if ownN s then K (fs, s) t else (valL t).bind fun v t => (fldsL nb m (fs ++ [(s, v)]) t).bind K)
      (by simpa only [ho, Bool.false_eq_true, if_false] using e1)
    have e : rfsL (f :: l) ++ b = f.1 ++ csB ++ (f.2 ++ crlf ++ (rfsL l ++ b)) := by simp [rfsL, rfL]
    rw [e]
    obtain ⟨x, hx, hx13⟩ := tk_head f.1 p1 p2
    refine Eats.congr (fun r hr => ?_) e2
    have hh := at_head (x := x) (by rw [List.append_assoc, List.head?_append, hx]; rfl) hr
    rw [flds_open nb m fs r x hx13 hh (by omega), R3.bind_bind]
    congr 1
    funext s t
    rw [R3.bind_if, R3.bind_ok, R3.bind_bind]

/-! ## Behind the fields -/
theorem eats_own {α : Type} (nb : Bool) (K : List Fd × Bs → Bs → R3 α) (l : List Fd) (o w : Bs) (a : α) (ho : (oursL nb).contains o = true) (hot : o.all tkB = true) (hO : ownN o = true) (h13 : o.head? ≠ some 13) (h0 : o ≠ [])
    (hK : Eats (K (l, o)) (o ++ 58 :: w) a) (m : Nat) (hm : 0 < m) : Eats (fun r => (fldsL nb m l r).bind K) (o ++ 58 :: w) a := by
  obtain ⟨m, rfl⟩ : ∃ k, m = k + 1 := ⟨m - 1, by omega⟩
  have hshort : ∀ s u : Bs, o = s ++ u → (nameL (oursL nb) l.length s) = .short := by
    intro s u hu
    have hs : s.all tkB = true := by
      rw [hu, List.all_append, Bool.and_eq_true] at hot; exact hot.1
    obtain ⟨e1, e2⟩ := take_end tkB s hs
    rw [nameL, e1, e2, if_pos rfl]
    have : ((oursL nb).all fun o => !s.isPrefixOf o) = false := by
      rw [List.all_eq_false]
      refine ⟨o, by simpa using ho, ?_⟩
      rw [(pfx_iff s o).mpr ⟨u, hu.symm⟩]; simp
    rw [fullL, this, Bool.and_false]; rfl
  have hyes : ∀ w', nameL (oursL nb) l.length (o ++ 58 :: w') = .ok o (o ++ 58 :: w') := by
    intro w'
    obtain ⟨e1, e2⟩ := take_app tkB 58 tk58 w' o hot
    rw [nameL, e1, e2, if_neg (by simp), if_pos ho]
  have hstep : ∀ r : Bs, r.head? ≠ some 13 → (nb = true → r ≠ []) → (fldsL nb (m + 1) l r).bind K = ((nameL (oursL nb) l.length r).bind fun s t => if ownN s then .ok (l, s) t else (valL t).bind fun v t => fldsL nb m (l ++ [(s, v)]) t).bind K := by
    intro r h1 h2
    rw [fldsL, if_neg (by rintro ⟨h3, h4⟩; exact h2 h3 h4), if_neg (by rintro ⟨-, h4⟩; exact h1 h4)]
  constructor
  · intro t
    show (fldsL nb (m + 1) l (o ++ 58 :: w ++ t)).bind K = _
    have e : o ++ 58 :: w ++ t = o ++ 58 :: (w ++ t) := by simp
    have hh : (o ++ 58 :: (w ++ t)).head? ≠ some 13 := by
      cases o with
      | nil => exact absurd rfl h0
      | cons x o => exact h13
    rw [e, hstep _ hh (by intro _; simp), hyes, R3.bind_ok, if_pos hO, R3.bind_ok, ← e]
    exact hK.all t
  · intro s c t h
    show (fldsL nb (m + 1) l s).bind K = _
    have hsh : ∀ u : Bs, o = s ++ u → (fldsL nb (m + 1) l s).bind K = .short := by
      intro u hu
      by_cases hn : nb = true ∧ s = []
      · rw [fldsL, if_pos hn]; rfl
      · rw [hstep s (by
          cases s with
          | nil => simp
          | cons x s => rw [hu] at h13; exact h13) (by intro a b; exact hn ⟨a, b⟩), hshort s u hu]; rfl
    rcases List.append_eq_append_iff.mp h with ⟨u, h1, h2⟩ | ⟨u, h1, h2⟩
    · cases u with
      | nil =>
        rw [List.append_nil] at h1
        exact hsh [] (by rw [h1, List.append_nil])
      | cons x u =>
        rw [List.cons_append, List.cons.injEq] at h2
        obtain ⟨rfl, h2⟩ := h2
        subst h1
        have hh : (o ++ 58 :: u).head? ≠ some 13 := by
          cases o with
          | nil => exact absurd rfl h0
          | cons x o => exact h13
        rw [hstep _ hh (by intro _; simp), hyes, R3.bind_ok, if_pos hO, R3.bind_ok]
        exact hK.cut _ c t h
    · exact hsh u h1
theorem eats_stop {α : Type} (K : List Fd × Bs → Bs → R3 α) (l : List Fd) (w : Bs) (a : α) (hK : Eats (K (l, [])) (13 :: w) a) (m : Nat) (hm : 0 < m) : Eats (fun r => (fldsL true m l r).bind K) (13 :: w) a := by
  obtain ⟨m, rfl⟩ : ∃ k, m = k + 1 := ⟨m - 1, by omega⟩
  have hs : ∀ r : Bs, r.head? = some 13 → (fldsL true (m + 1) l r).bind K = K (l, []) r := by
    intro r h
    rw [fldsL, if_neg (by rintro ⟨-, rfl⟩; cases h), if_pos ⟨rfl, h⟩]; rfl
  constructor
  · intro t
    show (fldsL true (m + 1) l (13 :: w ++ t)).bind K = _
    rw [hs _ rfl]; exact hK.all t
  · intro s c t h
    cases s with
    | nil => show (fldsL true (m + 1) l []).bind K = _; rw [fldsL, if_pos ⟨rfl, rfl⟩]; rfl
    | cons x s =>
      rw [List.cons_append, List.cons.injEq] at h
      obtain ⟨rfl, h⟩ := h
      show (fldsL true (m + 1) l (13 :: s)).bind K = _
      rw [hs _ rfl]; exact hK.cut _ c t (by rw [h]; rfl)
theorem conn_open {α : Type} (ch : Bool) (k : Bool → Bs → R3 α) (x : UInt8) (r : Bs) (h : r = [] ∨ r.head? = some x) :
    connT ch k r = if x = 107 ∧ ch = false then (textL keepL r).bind fun _ t => k false t else (textL closL r).bind fun _ t => k true t := by
  rcases h with rfl | h
  · rw [connT]; split <;> rfl
  · cases r with
    | nil => cases h
    | cons y r => cases h; rw [connT]
theorem ends_open (ch : Bool) (x : UInt8) (r : Bs) (h : r = [] ∨ r.head? = some x) :
    endsL ch r = if x = 13 then (textL crlf r).bind fun _ t => .ok false t
      else (textL (coN ++ csB) r).bind fun _ t => connT ch (fun b t => (textL crlf t).bind fun _ t => .ok b t) t := by
  rcases h with rfl | h
  · rw [endsL]; split <;> rfl
  · cases r with
    | nil => cases h
    | cons y r => cases h; rw [endsL]
theorem eats_conn (ch : Bool) (close : Bool) (T : Bs) (hT : T = if close then closL else keepL) (hc : close = false → ch = false) :
    Eats (endsL ch) (coN ++ csB ++ (T ++ crlf)) close := by
  refine Eats.congr (fun r hr => (ends_open ch 67 r (at_head rfl hr)).trans (if_neg (by decide))) ?_
  refine Eats.bind (eats_text _) ?_
  cases close
  · have hch := hc rfl
    subst hch
    rw [if_neg (by simp)] at hT
    subst hT
    refine Eats.congr (fun r hr => (conn_open false _ 107 r (at_head rfl hr)).trans (if_pos ⟨rfl, rfl⟩)) ?_
    exact Eats.bind (eats_text keepL) (Eats.map (eats_text crlf) fun _ => rfl)
  · rw [if_pos rfl] at hT
    subst hT
    refine Eats.congr (fun r hr => (conn_open ch _ 99 r (at_head rfl hr)).trans (if_neg (by rintro ⟨h, -⟩; exact absurd h (by decide)))) ?_
    exact Eats.bind (eats_text closL) (Eats.map (eats_text crlf) fun _ => rfl)
theorem eats_ends (ch : Bool) (minor : Int) (close : Bool) (h : ch = true → 0 < minor) : Eats (endsL ch) (lastR minor close ++ crlf) close := by
  rw [lastR]
  cases close
  · rw [if_neg (by simp)]
    by_cases hm : minor < 1
    · rw [if_pos hm]
      have e : ckS ++ crlf ++ crlf = coN ++ csB ++ (keepL ++ crlf) := by simp [ckS, keepL]
      rw [e]
      exact eats_conn ch false keepL rfl (fun _ => by cases ch; rfl; exact absurd (h rfl) (by omega))
    · rw [if_neg hm, List.nil_append]
      refine Eats.congr (fun r hr => (ends_open ch 13 r (at_head rfl hr)).trans (if_pos rfl)) ?_
      exact Eats.map (eats_text crlf) fun _ => rfl
  · rw [if_pos rfl]
    have e : ccS ++ crlf ++ crlf = coN ++ csB ++ (closL ++ crlf) := by simp [ccS, closL]
    rw [e]
    exact eats_conn ch true closL rfl (by simp)
theorem eats_data (d : Bs) : Eats (dataL d.length) d d := by
  constructor
  · intro t
    rw [dataL, if_neg (by rw [List.length_append]; omega), List.take_left, List.drop_left]
  · intro s c t h
    rw [dataL, if_pos (by rw [h, List.length_append, List.length_cons]; omega)]
theorem eats_numb {β : Type} (most : Nat) (p : UInt8 → Bool) (hp : p 13 = false) (s w : Bs) (g : Bs → Bs → R3 β) (d : β) (h0 : s ≠ []) (ha : s.all p = true) (hl : s.length ≤ most) (h48 : s = [48] ∨ s.head? ≠ some 48)
    (hg : Eats (g s) (13 :: w) d) (hn : ∀ u v, u ≠ [] → s = u ++ v → g u [] = .short) : Eats (fun r => (numbL most p r).bind g) (s ++ 13 :: w) d := by
  have hall : ∀ t, numbL most p (s ++ 13 :: t) = .ok s (13 :: t) := by
    intro t
    cases s with
    | nil => exact absurd rfl h0
    | cons c s =>
      rw [List.cons_append, numbL]
      by_cases hc : c = 48
      · subst hc
        rcases h48 with h | h
        · rw [List.cons.injEq] at h
          rw [if_pos rfl, h.2]; rfl
        · exact absurd rfl h
      · rw [if_neg hc]
        have e : ((c :: (s ++ 13 :: t)).take most).takeWhile p = c :: s := by
          rw [← List.cons_append, List.take_append]
          rw [List.take_of_length_le hl]
          cases hk : most - (c :: s).length with
          | zero => rw [List.take_zero, List.append_nil]; exact (take_end p _ ha).1
          | succ k => rw [List.take_succ_cons]; exact (take_app p 13 hp _ _ ha).1
        rw [e, if_neg (by simp), ← List.cons_append, List.drop_left]
  have hpart : ∀ u v, u ≠ [] → s = u ++ v → numbL most p u = .ok u [] := by
    intro u v hu h
    have hua : u.all p = true := by
      rw [h, List.all_append, Bool.and_eq_true] at ha; exact ha.1
    cases u with
    | nil => exact absurd rfl hu
    | cons c u =>
      rw [numbL]
      by_cases hc : c = 48
      · subst hc
        rcases h48 with h4 | h4
        · rw [h4, List.cons_append, List.cons.injEq] at h
          have := h.2.symm
          rw [List.append_eq_nil_iff] at this
          rw [if_pos rfl, this.1]
        · rw [h] at h4; exact absurd rfl h4
      · rw [if_neg hc]
        have hlu : (c :: u).length ≤ most := by
          have : s.length = (c :: u).length + v.length := by rw [h, List.length_append]
          omega
        rw [List.take_of_length_le hlu, (take_end p _ hua).1, if_neg (by simp), List.drop_length]
  constructor
  · intro t
    show (numbL most p (s ++ 13 :: w ++ t)).bind g = _
    rw [List.append_assoc, List.cons_append, hall, R3.bind_ok, ← List.cons_append]
    exact hg.all t
  · intro u c t h
    show (numbL most p u).bind g = _
    rcases List.append_eq_append_iff.mp h with ⟨v, h1, h2⟩ | ⟨v, h1, h2⟩
    · cases v with
      | nil =>
        rw [List.append_nil] at h1
        rw [hpart u [] (by rw [h1]; exact h0) (by rw [h1, List.append_nil]), R3.bind_ok]
        exact hn u [] (by rw [h1]; exact h0) (by rw [h1, List.append_nil])
      | cons x v =>
        rw [List.cons_append, List.cons.injEq] at h2
        obtain ⟨rfl, h2⟩ := h2
        subst h1
        rw [hall, R3.bind_ok]
        exact hg.cut _ c t (by rw [h2]; rfl)
    · by_cases hu : u = []
      · subst hu; rfl
      · rw [hpart u v hu h1, R3.bind_ok]
        exact hn u v hu h1
end Go.Proofs.YtmjekdnfkgalbaaGreatDoor
namespace Go.Proofs.YtmjekdnfkgalbaaGreatDoor
open Go.RowKit
set_option maxRecDepth 100000
set_option maxHeartbeats 4000000

theorem dch_hx (d : Nat) (h : d < 16) : hxB (dch d) = true ∧ (d ≠ 0 → dch d ≠ 48) := by
  have : ∀ e : Fin 16, hxB (dch e.val) = true ∧ (e.val ≠ 0 → dch e.val ≠ 48) := by decide
  exact this ⟨d, h⟩
theorem digs16_hx : ∀ (f u : Nat), u < f → (digs 16 u).all hxB = true
  | 0, u, h => by omega
  | f + 1, u, h => by
    have hm : u % 16 < 16 := Nat.mod_lt _ (by omega)
    rw [digs_step 16 u (by omega)]
    split
    · simp [(dch_hx _ hm).1]
    · rw [List.all_append, digs16_hx f (u / 16) (by omega)]
      simp [(dch_hx _ hm).1]
theorem digs_head (b : Nat) (hb : 2 ≤ b) (hb16 : b ≤ 16) : ∀ (f u : Nat), u < f → 0 < u → (digs b u).head? ≠ some 48
  | 0, u, h, _ => by omega
  | f + 1, u, h, h0 => by
    have hm : u % b < b := Nat.mod_lt _ (by omega)
    rw [digs_step b u hb]
    split
    · rename_i hd
      have hu : u % b = u := Nat.mod_eq_of_lt (by
        rcases Nat.div_eq_zero_iff.mp hd with h1 | h1
        · omega
        · exact h1)
      have := (dch_hx (u % b) (by omega)).2 (by rw [hu]; omega)
      simpa using this
    · rename_i hd
      have hlt : u / b < u := Nat.div_lt_self h0 (by omega)
      have := digs_head b hb hb16 f (u / b) (by omega) (Nat.pos_of_ne_zero hd)
      have hp := digs_pos b hb (u / b)
      rw [List.head?_append]
      cases hh : (digs b (u / b)) with
      | nil => rw [hh] at hp; simp at hp
      | cons x l => rw [hh] at this; simpa using this
theorem digs_zero (b : Nat) (hb : 2 ≤ b) : digs b 0 = [48] := by
  rw [digs_step b 0 hb, if_pos (Nat.zero_div b), Nat.zero_mod]; rfl
theorem hexV_digs (u : Nat) (h : u < 140737488355328) : hexV (digs 16 u) = u := by rw [hexV, back16' u h]; simp
theorem decV_digs (u : Nat) (h : u < 140737488355328) : decV (digs 10 u) = u := by rw [decV, back10 u h]; simp
theorem hx13 : hxB 13 = false := by decide
theorem dg13 : dgB 13 = false := by decide

/-! ## Chunks -/
def offs (n : Nat) : List Bs → List Int
  | [] => []
  | q :: ps => ((n + q.length : Nat) : Int) :: offs (n + q.length) ps
theorem ne48 (q : Bs) (h0 : q ≠ []) : digs 16 q.length ≠ [48] ∧ ∀ u v, u ≠ [] → digs 16 q.length = u ++ v → u ≠ [48] := by
  have hq : 0 < q.length := List.length_pos_iff.mpr h0
  have hh := digs_head 16 (by omega) (by omega) (q.length + 1) q.length (by omega) hq
  refine ⟨by intro h; rw [h] at hh; exact hh rfl, ?_⟩
  rintro u v hu h rfl
  rw [h] at hh; exact hh rfl
theorem eats_chks : ∀ (ps : List Bs) (B : Bs) (P : List Int) (n : Nat), (∀ q ∈ ps, q ≠ [] ∧ q.length < 140737488355328) → (ps = [] → P ≠ []) → ps.length < n →
    Eats (chksL n B P) (encL ps) (B ++ ps.flatten, P ++ offs B.length ps)
  | [], B, P, n, _, hP, hn => by
    obtain ⟨n, rfl⟩ : ∃ m, n = m + 1 := ⟨n - 1, by omega⟩
    have hP' := hP rfl
    refine Eats.congr (g := fun r => (numbL 12 hxB r).bind fun s t =>
      if s = [48] ∧ P = [] then .bad
      else (textL crlf t).bind fun _ t =>
        if s = [48] then (textL crlf t).bind fun _ t => .ok (B, P) t
        else (dataL (hexV s) t).bind fun d t => (textL crlf t).bind fun _ t => chksL n (B ++ d) (P ++ [((B ++ d).length : Int)]) t) (fun r _ => by rw [chksL]) ?_
    have e : encL [] = ([48] : Bs) ++ 13 :: (10 :: crlf) := rfl
    rw [e]
    simp only [List.flatten_nil, List.append_nil, offs]
    refine eats_numb 12 hxB hx13 [48] _ _ _ (by simp) (by decide) (by decide) (.inl rfl) ?_ ?_
    · rw [show (fun t : Bs => (if ([48] : Bs) = [48] ∧ P = [] then R3.bad
      else (textL crlf t).bind fun _ t =>
        if ([48] : Bs) = [48] then (textL crlf t).bind fun _ t => .ok (B, P) t
        else (dataL (hexV [48]) t).bind fun d t => (textL crlf t).bind fun _ t => chksL n (B ++ d) (P ++ [((B ++ d).length : Int)]) t)) = fun t => (textL crlf t).bind fun _ t => (textL crlf t).bind fun _ t => .ok (B, P) t from by
        funext t
        rw [if_neg (by rintro ⟨-, h⟩; exact hP' h)]; rfl]
      exact Eats.bind (eats_text crlf) (Eats.map (eats_text crlf) fun _ => rfl)
    · intro u v hu h
      show (if u = [48] ∧ P = [] then R3.bad else _) = _
      rw [if_neg (by rintro ⟨-, h⟩; exact hP' h)]; rfl
  | q :: ps, B, P, n, hq, hP, hn => by
    obtain ⟨n, rfl⟩ : ∃ m, n = m + 1 := ⟨n - 1, by omega⟩
    obtain ⟨hq0, hql⟩ := hq q List.mem_cons_self
    obtain ⟨h48, h48'⟩ := ne48 q hq0
    rw [List.length_cons] at hn
    have ih := eats_chks ps (B ++ q) (P ++ [((B ++ q).length : Int)]) n (fun p hp => hq p (List.mem_cons_of_mem _ hp)) (fun _ => by simp) (by omega)
    have hres : (B ++ (q :: ps).flatten, P ++ offs B.length (q :: ps)) = (B ++ q ++ ps.flatten, P ++ [((B ++ q).length : Int)] ++ offs (B ++ q).length ps) := by
      simp [offs]
    have e : encL (q :: ps) = digs 16 q.length ++ 13 :: (10 :: (q ++ (crlf ++ encL ps))) := by
      simp [encL, encP, hq0, crlf]
    rw [hres, e]
    refine Eats.congr (g := fun r => (numbL 12 hxB r).bind fun s t =>
      if s = [48] ∧ P = [] then .bad
      else (textL crlf t).bind fun _ t =>
        if s = [48] then (textL crlf t).bind fun _ t => .ok (B, P) t
        else (dataL (hexV s) t).bind fun d t => (textL crlf t).bind fun _ t => chksL n (B ++ d) (P ++ [((B ++ d).length : Int)]) t) (fun r _ => by rw [chksL]) ?_
    refine eats_numb 12 hxB hx13 (digs 16 q.length) _ _ _ (by have := digs_pos 16 (by omega) q.length; intro h; rw [h] at this; simp at this)
      (digs16_hx (q.length + 1) q.length (by omega)) (digs_len' 16 (by omega) 11 q.length (by omega)) (.inr (digs_head 16 (by omega) (by omega) (q.length + 1) q.length (by omega) (List.length_pos_iff.mpr hq0))) ?_ ?_
    · rw [show (fun t : Bs => (if digs 16 q.length = [48] ∧ P = [] then R3.bad
      else (textL crlf t).bind fun _ t =>
        if digs 16 q.length = [48] then (textL crlf t).bind fun _ t => .ok (B, P) t
        else (dataL (hexV (digs 16 q.length)) t).bind fun d t => (textL crlf t).bind fun _ t => chksL n (B ++ d) (P ++ [((B ++ d).length : Int)]) t)) =
          fun t => (textL crlf t).bind fun _ t => (dataL q.length t).bind fun d t => (textL crlf t).bind fun _ t => chksL n (B ++ d) (P ++ [((B ++ d).length : Int)]) t from by
        funext t
        rw [if_neg (by rintro ⟨h, -⟩; exact h48 h)]
        simp only [if_neg h48, hexV_digs q.length hql]]
      exact Eats.bind (eats_text crlf) (Eats.bind (eats_data q) (Eats.bind (eats_text crlf) ih))
    · intro u v hu h
      show (if u = [48] ∧ P = [] then R3.bad else _) = _
      rw [if_neg (by rintro ⟨h, -⟩; exact h48' u v hu ‹_› h)]; rfl
theorem chks_fuel (B : Bs) (P : List Int) (n k : Nat) (r : Bs) (h1 : r.length < n) (h2 : r.length < k) : chksL n B P r = chksL k B P r := by
  rw [chks_same n k B P r h1 h2, chks_same k k B P r h2 h2]
theorem encL_lenR : ∀ ps : List Bs, (∀ q ∈ ps, q ≠ []) → ps.length ≤ (encL ps).length
  | [], _ => by simp
  | q :: ps, h => by
    have ih := encL_lenR ps fun p hp => h p (List.mem_cons_of_mem _ hp)
    have hq := h q List.mem_cons_self
    simp [encL, encP, hq] at ih ⊢
    omega
theorem cut_props (b : Bs) : ∀ (p : List Int) (at_ last : Int), 0 ≤ at_ → at_ ≤ b.length → prtF b.length at_ p = some last →
    (∀ q ∈ cutP b at_ p, q ≠ [] ∧ q.length ≤ b.length) ∧ b.take at_.toNat ++ (cutP b at_ p).flatten = b.take last.toNat ∧ offs at_.toNat (cutP b at_ p) = p ∧ 0 ≤ last ∧ last ≤ b.length ∧ (cutP b at_ p).length = p.length
  | [], at_, last, h0, h1, h => by
    rw [prtF] at h
    cases h
    exact ⟨by simp [cutP], by simp [cutP], rfl, h0, h1, rfl⟩
  | a :: p, at_, last, h0, h1, h => by
    rw [prtF] at h
    split at h
    · cases h
    · rename_i hc
      have ih := cut_props b p a last (by omega) (by omega) h
      have hql : ((b.take a.toNat).drop at_.toNat).length = a.toNat - at_.toNat := by
        rw [List.length_drop, List.length_take]; omega
      refine ⟨?_, ?_, ?_, ih.2.2.2.1, ih.2.2.2.2.1, ?_⟩
      · intro q hq
        rw [cutP, List.mem_cons] at hq
        rcases hq with rfl | hq
        · refine ⟨?_, by rw [hql]; omega⟩
          intro h
          rw [h] at hql
          simp at hql; omega
        · exact ih.1 q hq
      · rw [cutP, List.flatten_cons, ← List.append_assoc]
        have : b.take at_.toNat ++ (b.take a.toNat).drop at_.toNat = b.take a.toNat := by
          conv => rhs; rw [← List.take_append_drop at_.toNat (b.take a.toNat)]
          rw [List.take_take, Nat.min_eq_left (by omega)]
        rw [this]; exact ih.2.1
      · rw [cutP, offs, hql]
        have e : at_.toNat + (a.toNat - at_.toNat) = a.toNat := by omega
        rw [e, ih.2.2.1, Int.toNat_of_nonneg (by omega)]
      · rw [cutP, List.length_cons, ih.2.2.2.2.2, List.length_cons]

/-! ## All of it -/
theorem addL_ok : ∀ (l acc : List Fd) (i : Nat), acc.length ≤ 24 → (addL acc l i).2.2 = 0 → (∀ f ∈ l, isF f = true) ∧ acc.length + l.length ≤ 24
  | [], acc, i, h, _ => ⟨by simp, by simpa using h⟩
  | f :: l, acc, i, h, he => by
    by_cases hf : isF f = true
    · by_cases h24 : 24 ≤ acc.length
      · rw [addL_full acc f l i hf h24] at he; simp at he
      · rw [addL_one acc f l i hf (by omega)] at he
        have := addL_ok l (acc ++ [f]) (i + 1) (by simp; omega) he
        rw [List.length_append, List.length_singleton] at this
        refine ⟨?_, by rw [List.length_cons]; omega⟩
        intro g hg
        rw [List.mem_cons] at hg
        rcases hg with rfl | hg
        · exact hf
        · exact this.1 g hg
    · rw [addL_bad acc f l i (by simpa using hf)] at he; simp at he
theorem one_parts (r : Rs) (h : isOneL r = true) : (200 ≤ r.st ∧ r.st ≤ 599) ∧ (noBody r.st = true → r.b = [] ∧ r.p = []) ∧ FdsOk r.f ∧ r.f.length ≤ 24 ∧
    ∃ last, prtF r.b.length 0 r.p = some last ∧ (r.p ≠ [] → last = r.b.length) := by
  rw [isOneL, Bool.and_eq_true, Bool.and_eq_true, Bool.and_eq_true] at h
  obtain ⟨h1, h2, h3, h4⟩ := h
  simp only [stOk, Bool.not_eq_true', Bool.or_eq_false_iff, Bool.and_eq_false_iff, decide_eq_false_iff_not] at h1
  simp only [fdOk, Bool.not_eq_true', Bool.or_eq_false_iff, decide_eq_false_iff_not, Decidable.not_not] at h2
  obtain ⟨a1, a2⟩ := addL_ok r.f [] 0 (by simp) h2.2
  rw [ownOk, List.all_eq_true] at h3
  have hl : ∃ last, prtF r.b.length 0 r.p = some last ∧ (r.p ≠ [] → last = r.b.length) := by
    unfold prtOk at h4
    split at h4
    · cases h4
    · rename_i last hlast
      refine ⟨last, hlast, fun hp => ?_⟩
      simp only [Bool.or_eq_true, decide_eq_true_eq] at h4
      exact h4.resolve_left hp
  refine ⟨by omega, ?_, ?_, by simpa using a2, hl⟩
  · intro hn
    have hb : r.b = [] := by
      rcases h1.2 with h | h
      · exact List.eq_nil_of_length_eq_zero (by omega)
      · rw [hn] at h; cases h
    refine ⟨hb, ?_⟩
    obtain ⟨last, e1, -⟩ := hl
    cases hp : r.p with
    | nil => rfl
    | cons a p =>
      rw [hp, hb, prtF] at e1
      split at e1
      · cases e1
      · rename_i hc
        simp at hc; omega
  · intro f hf
    exact ⟨a1 f hf, by simpa using h3 f hf⟩
/-- What is read of what was written. -/
def wantR (r : Rs) (head : Bool) (minor : Int) : Rs := ⟨r.st, r.f, if head then [] else r.b, if head then [] else if 0 < minor then r.p else []⟩
theorem rfs_len : ∀ l : List Fd, l.length ≤ (rfsL l).length
  | [] => by simp
  | f :: l => by
    have := rfs_len l
    simp [rfsL, rfL, crlf] at this ⊢
    omega
theorem tk_own : teN.head? ≠ some 13 ∧ clN.head? ≠ some 13 ∧ coN.head? ≠ some 13 := by decide
theorem eats_tail (r : Rs) (head : Bool) (minor : Int) (close : Bool) (h : isOneL r = true) (hs : r.b.length < 140737488355328) :
    ∀ m, 0 < m → Eats (fun t => (fldsL (noBody r.st) m r.f t).bind fun x t => tailL head r.st x.1 x.2 t) (codeR r minor ++ lastR minor close ++ crlf ++ bodyR r head minor) (wantR r head minor, close) := by
  obtain ⟨-, hnb, -, hfl, last, hlast, hlp⟩ := one_parts r h
  intro m hm
  by_cases hn : noBody r.st = true
  · obtain ⟨hb, hp⟩ := hnb hn
    have hw : wantR r head minor = ⟨r.st, r.f, [], []⟩ := by rw [wantR, hb, hp]; simp
    have hbo : codeR r minor ++ lastR minor close ++ crlf ++ bodyR r head minor = lastR minor close ++ crlf := by rw [codeR, if_pos hn, bodyR, hn]; simp
    rw [hbo, hw, hn]
    have he := eats_ends false minor close (by simp)
    by_cases hc : lastR minor close = []
    · rw [hc] at he ⊢
      refine eats_stop _ r.f [10] _ ?_ m hm
      show Eats (fun t => tailL head r.st r.f [] t) crlf _
      have : (fun t : Bs => tailL head r.st r.f [] t) = fun t => (endsL false t).bind fun e t => .ok (⟨r.st, r.f, [], []⟩, e) t := by
        funext t; rw [tailL, if_neg (by decide), if_neg (by decide)]
      rw [this]
      exact Eats.map he fun _ => rfl
    · obtain ⟨w, hw⟩ : ∃ w, lastR minor close ++ crlf = coN ++ 58 :: w := by
        rw [lastR] at hc ⊢
        cases close
        · rw [if_neg (by simp)] at hc ⊢
          by_cases hm1 : minor < 1
          · rw [if_pos hm1]; exact ⟨32 :: (keepB ++ crlf ++ crlf), by simp [ckS, csB]⟩
          · rw [if_neg hm1] at hc; exact absurd rfl hc
        · exact ⟨32 :: (closeB ++ crlf ++ crlf), by simp [ccS, csB]⟩
      rw [hw] at he ⊢
      refine eats_own true _ r.f coN w _ (by decide) tk_co own_co tk_own.2.2 (by decide) ?_ m hm
      have : (fun t : Bs => tailL head r.st r.f coN t) = fun t => (endsL false t).bind fun e t => .ok (⟨r.st, r.f, [], []⟩, e) t := by
        funext t; rw [tailL, if_neg (by decide), if_neg (by decide)]
      show Eats (fun t => tailL head r.st r.f coN t) _ _
      rw [this]
      exact Eats.map he fun _ => rfl
  · have hn' : noBody r.st = false := by simpa using hn
    rw [hn']
    by_cases hch : chunkedR r minor = true
    · have hch' := hch
      rw [chunkedR, Bool.and_eq_true, decide_eq_true_eq, decide_eq_true_eq] at hch'
      have hpne : r.p ≠ [] := by intro h; rw [h] at hch'; simp at hch'
      have he := eats_ends true minor close (fun _ => hch'.2)
      have e : codeR r minor ++ lastR minor close ++ crlf ++ bodyR r head minor = teN ++ 58 :: (32 :: (chunkedB ++ (crlf ++ (lastR minor close ++ crlf ++ bodyR r head minor)))) := by
        rw [codeR, if_neg hn, if_pos hch]; simp [teS, chB, csB]
      have e2 : teN ++ 58 :: (32 :: (chunkedB ++ (crlf ++ (lastR minor close ++ crlf ++ bodyR r head minor)))) = teN ++ (chB ++ crlf) ++ (lastR minor close ++ crlf ++ bodyR r head minor) := by simp [chB, csB]
      rw [e]
      refine eats_own false _ r.f teN _ _ (by decide) tk_te own_te tk_own.1 (by decide) ?_ m hm
      rw [e2]
      have : (fun t : Bs => tailL head r.st r.f teN t) = fun t => (textL (teN ++ (chB ++ crlf)) t).bind fun _ t => (endsL true t).bind fun e t =>
          if head then .ok (⟨r.st, r.f, [], []⟩, e) t else (chksL (t.length + 1) [] [] t).bind fun x t => .ok (⟨r.st, r.f, x.1, x.2⟩, e) t := by
        funext t; rw [tailL, if_pos rfl]
      show Eats (fun t => tailL head r.st r.f teN t) _ _
      rw [this]
      refine Eats.bind (eats_text _) (Eats.bind he ?_)
      cases head
      · have hb : bodyR r false minor = encL (cutP r.b 0 r.p) := by rw [bodyR, hn', hch]; rfl
        have hw : wantR r false minor = ⟨r.st, r.f, r.b, r.p⟩ := by rw [wantR]; simp [hch'.2]
        rw [hb, hw]
        obtain ⟨c1, c2, c3, -, -, c6⟩ := cut_props r.b r.p 0 last (by omega) (by omega) hlast
        have hcl := hlp hpne
        have hcq : ∀ q ∈ cutP r.b 0 r.p, q ≠ [] ∧ q.length < 140737488355328 := fun q hq => ⟨(c1 q hq).1, by have := (c1 q hq).2; omega⟩
        have hflat : (cutP r.b 0 r.p).flatten = r.b := by
          rw [hcl] at c2
          simpa using c2
        have hoff : offs 0 (cutP r.b 0 r.p) = r.p := c3
        have hne : cutP r.b 0 r.p ≠ [] := by intro h; rw [h] at c6; exact hpne (List.eq_nil_of_length_eq_zero c6.symm)
        have E : Eats (fun t => chksL (t.length + 1) [] [] t) (encL (cutP r.b 0 r.p)) (r.b, r.p) := by
          refine Eats.fuel (F := fun n t => chksL n [] [] t) (cutP r.b 0 r.p).length (fun n hn => ?_) (encL_lenR _ fun q hq => (hcq q hq).1) (fun n k t h1 h2 => chks_fuel [] [] n k t h1 h2)
          have := eats_chks (cutP r.b 0 r.p) [] [] n hcq (fun h => absurd h hne) hn
          rw [List.nil_append, List.nil_append, List.length_nil, hflat, hoff] at this
          exact this
        exact Eats.map E fun _ => rfl
      · have hb : bodyR r true minor = [] := by rw [bodyR]; rfl
        rw [hb]
        exact Eats.ok _
    · have hch' : chunkedR r minor = false := by simpa using hch
      have hd : r.b.length < 140737488355328 := hs
      have he := eats_ends false minor close (by simp)
      have e : codeR r minor ++ lastR minor close ++ crlf ++ bodyR r head minor = clN ++ 58 :: (32 :: (digs 10 r.b.length ++ (crlf ++ (lastR minor close ++ crlf ++ bodyR r head minor)))) := by
        rw [codeR, if_neg hn, if_neg hch]; simp [clS, csB]
      have e2 : clN ++ 58 :: (32 :: (digs 10 r.b.length ++ (crlf ++ (lastR minor close ++ crlf ++ bodyR r head minor)))) = clN ++ csB ++ (digs 10 r.b.length ++ 13 :: (10 :: (lastR minor close ++ crlf ++ bodyR r head minor))) := by simp [csB, crlf]
      rw [e]
      refine eats_own false _ r.f clN _ _ (by decide) tk_cl own_cl tk_own.2.1 (by decide) ?_ m hm
      rw [e2]
      have : (fun t : Bs => tailL head r.st r.f clN t) = fun t => (textL (clN ++ csB) t).bind fun _ t => (numbL 15 dgB t).bind fun s t => (textL crlf t).bind fun _ t => (endsL false t).bind fun e t =>
          if head then .ok (⟨r.st, r.f, [], []⟩, e) t else (dataL (decV s) t).bind fun d t => .ok (⟨r.st, r.f, d, []⟩, e) t := by
        funext t; rw [tailL, if_neg (by decide), if_pos rfl]
      show Eats (fun t => tailL head r.st r.f clN t) _ _
      rw [this]
      refine Eats.bind (eats_text _) (eats_numb 15 dgB dg13 _ _ _ _ (by have := digs_pos 10 (by omega) r.b.length; intro h; rw [h] at this; simp at this) ?_ (digs_len' 10 (by omega) 14 r.b.length (by omega)) ?_ ?_ (fun u v hu h => rfl))
      · rw [List.all_eq_true]
        intro c hc
        have := digs_bytes 10 (by omega) (by omega) (r.b.length + 1) r.b.length (by omega) c hc
        rw [dgB]; exact decide_eq_true this
      · by_cases h0 : r.b.length = 0
        · left; rw [h0]; exact digs_zero 10 (by omega)
        · right; exact digs_head 10 (by omega) (by omega) (r.b.length + 1) r.b.length (by omega) (by omega)
      · rw [decV_digs r.b.length hd]
        refine Eats.bind (eats_text crlf) (Eats.bind he ?_)
        cases head
        · have hb : bodyR r false minor = r.b := by rw [bodyR, hn', hch']; rfl
          have hw : wantR r false minor = ⟨r.st, r.f, r.b, []⟩ := by
            have : (if 0 < minor then r.p else []) = [] := by
              rw [chunkedR, Bool.and_eq_false_iff, decide_eq_false_iff_not, decide_eq_false_iff_not] at hch'
              rcases hch' with h | h
              · rw [List.eq_nil_of_length_eq_zero (show r.p.length = 0 by omega)]; simp
              · rw [if_neg h]
            rw [wantR, this]; rfl
          rw [hb, hw]
          exact Eats.map (eats_data r.b) fun _ => rfl
        · have hb : bodyR r true minor = [] := by rw [bodyR]; rfl
          rw [hb]
          exact Eats.ok _
theorem enc_eats (r : Rs) (head : Bool) (minor : Int) (close : Bool) (h : isOneL r = true) (hs : r.b.length < 140737488355328) : Eats (wholL head) (allR r head minor close) (wantR r head minor, close) := by
  obtain ⟨⟨h1, h2⟩, -, hok, hfl, -⟩ := one_parts r h
  have ht := eats_tail r head minor close h hs
  have e : allR r head minor close = startR r.st ++ (rfsL r.f ++ (codeR r minor ++ lastR minor close ++ crlf ++ bodyR r head minor)) := by rw [allR, headR]; simp
  rw [e]
  refine Eats.bind (f := statusL) (g := fun st t => (fldsL (noBody st) (t.length + 1) [] t).bind fun x t => tailL head st x.1 x.2 t) (eats_status r.st h1 h2) ?_
  refine Eats.fuel (F := fun n t => (fldsL (noBody r.st) n [] t).bind fun x t => tailL head r.st x.1 x.2 t) r.f.length (fun n hn => ?_) ?_ (fun n k t a b => ?_)
  · exact eats_flds (noBody r.st) _ _ _ r.f [] n hok (by simpa using hfl) hn ht
  · have := rfs_len r.f
    rw [List.length_append]; omega
  · show (fldsL (noBody r.st) n [] t).bind _ = (fldsL (noBody r.st) k [] t).bind _
    rw [flds_same r.st head n [] t a, flds_same r.st head k [] t b]
/-- What was written is read again, whatever stands behind it. -/
theorem read_enc (r : Rs) (head : Bool) (minor : Int) (close : Bool) (behind : Bs) (h : isOneL r = true) (hs : r.b.length < 140737488355328) :
    readL head (allR r head minor close ++ behind) = (wantR r head minor, close, (allR r head minor close).length, 0) := by
  rw [readL, (enc_eats r head minor close h hs).all behind, readOf]
  simp
/-- A part of it ends too early. -/
theorem read_part (r : Rs) (head : Bool) (minor : Int) (close : Bool) (k : Nat) (h : isOneL r = true) (hs : r.b.length < 140737488355328) (hk : k < (allR r head minor close).length) :
    readL head ((allR r head minor close).take k) = (rs0, false, 0, 12) := by
  have hd : ∃ c t, allR r head minor close = (allR r head minor close).take k ++ c :: t := by
    refine ⟨(allR r head minor close)[k], (allR r head minor close).drop (k + 1), ?_⟩
    rw [← List.drop_eq_getElem_cons hk, List.take_append_drop]
  obtain ⟨c, t, e⟩ := hd
  rw [readL, (enc_eats r head minor close h hs).cut _ c t e, readOf]
end Go.Proofs.YtmjekdnfkgalbaaGreatDoor
namespace Go.Proofs.YtmjekdnfkgalbaaGreatDoor
open Go.RowKit
set_option maxRecDepth 100000
set_option maxHeartbeats 4000000

/-! ## Sizes -/
def heavyF (n : Nat) : List Fd → Bool
  | [] => false
  | f :: l => if 4000 < n + 5 + f.1.length + f.2.length then true else heavyF (n + 5 + f.1.length + f.2.length) l
/-- Is a response more than is looked at? -/
def heavyR (r : Rs) : Bool := decide (4000 < r.b.length) || decide (500 < r.p.length) || heavyF r.b.length r.f
theorem heavyF_no : ∀ (l : List Fd) (n : Nat), heavyF n l = false → n ≤ 4000 → (rfsL l).length + l.length + n ≤ 4000 ∧ ∀ f ∈ l, f.1.length ≤ 4000 ∧ f.2.length ≤ 4000
  | [], n, _, h => by simpa [rfsL] using h
  | f :: l, n, h, hn => by
    rw [heavyF] at h
    split at h
    · cases h
    · rename_i hc
      have ih := heavyF_no l _ h (by omega)
      refine ⟨?_, ?_⟩
      · have e : rfsL (f :: l) = rfL f ++ rfsL l := by simp [rfsL]
        rw [e, List.length_append, rfL]
        simp only [List.length_append, csB, crlf, List.length_cons, List.length_nil]
        have := ih.1
        omega
      · intro g hg
        rw [List.mem_cons] at hg
        rcases hg with rfl | hg
        · omega
        · exact ih.2 g hg
structure Light (r : Rs) : Prop where
  b : r.b.length ≤ 4000
  p : r.p.length ≤ 500
  f : (rfsL r.f).length + r.f.length ≤ 4000
  e : ∀ f ∈ r.f, f.1.length ≤ 4000 ∧ f.2.length ≤ 4000
theorem light_of (r : Rs) (h : heavyR r = false) : Light r := by
  rw [heavyR, Bool.or_eq_false_iff, Bool.or_eq_false_iff, decide_eq_false_iff_not, decide_eq_false_iff_not] at h
  obtain ⟨⟨h1, h2⟩, h3⟩ := h
  have := heavyF_no r.f _ h3 (by omega)
  exact ⟨by omega, by omega, by omega, this.2⟩
theorem start_len (st : Int) (h : st ≤ 9223372036854775807) : (startR st).length ≤ 100 := by
  have h1 := digs10_len st.toNat (by omega)
  have h2 := phrase_len st
  rw [startR]
  simp only [List.length_append, begB, crlf, List.length_cons, List.length_nil]
  omega
theorem code_len (r : Rs) (minor : Int) (h : r.b.length ≤ 9223372036854775807) : (codeR r minor).length ≤ 100 := by
  have h1 := digs10_len r.b.length h
  rw [codeR]
  split
  · simp
  · split
    · decide
    · simp only [List.length_append, clS, clN, csB, crlf, List.length_cons, List.length_nil]
      omega
theorem last_len (minor : Int) (close : Bool) : (lastR minor close).length ≤ 100 := by
  rw [lastR]
  split
  · decide
  · split <;> decide
theorem encP_lenR (q : Bs) (h : q.length ≤ 9223372036854775807) : (encP q).length ≤ q.length + 20 := by
  rw [encP]
  split
  · simp
  · have := digs_len' 16 (by omega) 15 q.length (by omega)
    simp only [List.length_append, List.length_cons, List.length_nil]
    omega
theorem encL_max (m : Nat) (hm : m ≤ 9223372036854775807) : ∀ ps : List Bs, (∀ q ∈ ps, q.length ≤ m) → (encL ps).length ≤ ps.length * (m + 20) + 5
  | [], _ => by simp [encL]
  | q :: ps, h => by
    have ih := encL_max m hm ps fun p hp => h p (List.mem_cons_of_mem _ hp)
    have hq := h q List.mem_cons_self
    have := encP_lenR q (by omega)
    have e : (encL (q :: ps)).length = (encP q).length + (encL ps).length := by simp [encL]
    rw [e, List.length_cons, Nat.succ_mul]
    omega
theorem encL_sum : ∀ ps : List Bs, (∀ q ∈ ps, q.length ≤ 9223372036854775807) → (encL ps).length ≤ ps.flatten.length + ps.length * 20 + 5
  | [], _ => by simp [encL]
  | q :: ps, h => by
    have ih := encL_sum ps fun p hp => h p (List.mem_cons_of_mem _ hp)
    have := encP_lenR q (h q List.mem_cons_self)
    have e : (encL (q :: ps)).length = (encP q).length + (encL ps).length := by simp [encL]
    rw [e, List.length_cons, List.flatten_cons, List.length_append]
    omega
theorem cutP_len (b : Bs) : ∀ (p : List Int) (at_ : Int), (cutP b at_ p).length = p.length ∧ ∀ q ∈ cutP b at_ p, q.length ≤ b.length
  | [], _ => ⟨rfl, by simp [cutP]⟩
  | a :: p, at_ => by
    have ih := cutP_len b p a
    refine ⟨by rw [cutP, List.length_cons, ih.1, List.length_cons], ?_⟩
    intro q hq
    rw [cutP, List.mem_cons] at hq
    rcases hq with rfl | hq
    · rw [List.length_drop, List.length_take]; omega
    · exact ih.2 q hq
theorem body_len (r : Rs) (head : Bool) (minor : Int) (h : Light r) : (bodyR r head minor).length ≤ 2100000 := by
  have hb := h.b
  have hp := h.p
  rw [bodyR]
  split
  · simp
  · split
    · obtain ⟨c1, c2⟩ := cutP_len r.b r.p 0
      have := encL_max 4000 (by omega) (cutP r.b 0 r.p) fun q hq => Nat.le_trans (c2 q hq) hb
      have h3 : (cutP r.b 0 r.p).length * (4000 + 20) ≤ 500 * (4000 + 20) := Nat.mul_le_mul_right _ (by rw [c1]; exact hp)
      omega
    · omega
theorem all_len (r : Rs) (head : Bool) (minor : Int) (close : Bool) (h : Light r) (hs : r.st ≤ 9223372036854775807) : (allR r head minor close).length ≤ 3000000 := by
  have h1 := start_len r.st hs
  have h2 := code_len r minor (by have := h.b; omega)
  have h3 := last_len minor close
  have h4 := body_len r head minor h
  have h5 := h.f
  rw [allR, headR]
  simp only [List.length_append, crlf, List.length_cons, List.length_nil] at *
  omega
theorem cut_sum (r : Rs) (h : Light r) (ho : isOneL r = true) : (encL (cutP r.b 0 r.p)).length ≤ 20000 := by
  obtain ⟨-, -, -, -, last, hlast, -⟩ := one_parts r ho
  have hb := h.b
  have hp := h.p
  obtain ⟨c1, c2⟩ := cutP_len r.b r.p 0
  obtain ⟨-, e2, -, -, e5, -⟩ := cut_props r.b r.p 0 last (by omega) (by omega) hlast
  have := encL_sum (cutP r.b 0 r.p) fun q hq => Nat.le_trans (c2 q hq) (by omega)
  have e3 : (cutP r.b 0 r.p).flatten.length ≤ r.b.length := by
    have := congrArg List.length e2
    rw [List.length_append, List.length_take, List.length_take] at this
    omega
  rw [c1] at this
  omega
theorem cut_flat (r : Rs) (h : Light r) (ho : isOneL r = true) : ((cutP r.b 0 r.p).flatMap encP).length ≤ 1000000 := by
  have := cut_sum r h ho
  rw [encL, List.length_append] at this
  omega
theorem all_short (r : Rs) (head : Bool) (minor : Int) (close : Bool) (h : Light r) (ho : isOneL r = true) : (allR r head minor close).length ≤ 65536 := by
  obtain ⟨⟨a1, a2⟩, -⟩ := one_parts r ho
  have h1 := start_len r.st (by omega)
  have h2 := code_len r minor (by have := h.b; omega)
  have h3 := last_len minor close
  have hb := h.b
  have h4 : (bodyR r head minor).length ≤ 20000 := by
    rw [bodyR]
    split
    · simp
    · split
      · exact cut_sum r h ho
      · omega
  have h5 := h.f
  rw [allR, headR]
  simp only [List.length_append, crlf, List.length_cons, List.length_nil] at *
  omega
theorem enc_light (r : Rs) (head : Bool) (minor : Int) (close : Bool) (h : Light r) : encR r head minor close = if isOneL r then (allR r head minor close, 0) else ([], 1) := by
  rw [encR]
  split
  · rename_i ho
    rw [if_neg (by have := all_short r head minor close h ho; omega)]
  · rfl

/-! ## To HEAD -/
def EndsC (l : Bs) : Prop := ∃ u, l = u ++ crlf
theorem EndsC.app {a b : Bs} (h : EndsC a) (hb : b = [] ∨ EndsC b) : EndsC (a ++ b) := by
  rcases hb with rfl | ⟨u, rfl⟩
  · rwa [List.append_nil]
  · exact ⟨a ++ u, by rw [List.append_assoc]⟩
theorem rfs_ends : ∀ l : List Fd, rfsL l = [] ∨ EndsC (rfsL l)
  | [] => .inl rfl
  | f :: l => by
    right
    have e : rfsL (f :: l) = rfL f ++ rfsL l := by simp [rfsL]
    rw [e]
    exact EndsC.app ⟨_, rfl⟩ (rfs_ends l)
theorem head_ends (r : Rs) (minor : Int) (close : Bool) : ∃ u, headR r minor close = u ++ [13, 10, 13, 10] := by
  have h1 : EndsC (startR r.st) := ⟨_, rfl⟩
  have h2 : codeR r minor = [] ∨ EndsC (codeR r minor) := by
    rw [codeR]
    split
    · exact .inl rfl
    · split
      · exact .inr ⟨_, rfl⟩
      · exact .inr ⟨_, rfl⟩
  have h3 : lastR minor close = [] ∨ EndsC (lastR minor close) := by
    rw [lastR]
    split
    · exact .inr ⟨_, rfl⟩
    · split
      · exact .inr ⟨_, rfl⟩
      · exact .inl rfl
  obtain ⟨u, hu⟩ := ((h1.app (rfs_ends r.f)).app h2).app h3
  exact ⟨u, by rw [headR, hu, List.append_assoc]; rfl⟩
theorem all_head (r : Rs) (minor : Int) (close : Bool) : allR r true minor close = headR r minor close := by
  rw [allR, bodyR]; simp
theorem all_get (r : Rs) (minor : Int) (close : Bool) : allR r false minor close = headR r minor close ++ bodyR r false minor := rfl
theorem body_none (r : Rs) (minor : Int) (h1 : r.b = []) (h2 : r.p = []) : bodyR r false minor = [] := by
  rw [bodyR, chunkedR, h1, h2]; simp

/-! ## Words that break a rule -/
def badsF : List Fd := [([99, 111, 110, 116, 101, 110, 116, 45, 108, 101, 110, 103, 116, 104], [53]), (teN, chunkedB), ([67, 79, 78, 78, 69, 67, 84, 73, 79, 78], [120]), ([97, 32, 98], [120]), ([97], [120, 13, 10, 121, 58, 32, 122]), ([97], [32, 120]), ([], [120])]
theorem bads_no : ∀ f ∈ badsF, ¬ (isF f = true ∧ ownN f.1 = false) := by decide
theorem words_no (r : Rs) (f : Fd) (hf : f ∈ badsF) : isOneL { r with f := r.f ++ [f] } = false := by
  rw [← Bool.not_eq_true]
  intro h
  obtain ⟨-, -, hok, -⟩ := one_parts _ h
  exact bads_no f hf (hok f (by simp))
end Go.Proofs.YtmjekdnfkgalbaaGreatDoor
