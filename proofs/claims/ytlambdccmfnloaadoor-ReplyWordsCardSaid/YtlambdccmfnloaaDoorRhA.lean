/- reply: what is written is read again; a part of it ends too early (plain). -/
import Derived.Test.YtlambdccmfnloaaDoorReW
import Derived.Test.YtlambdccmfnloaaDoorReE
import Derived.Test.YtlambdccmfnloaaDoorNum
namespace Go.Proofs.YtlambdccmfnloaaDoor
open Go.RowKit
set_option maxRecDepth 100000
set_option maxHeartbeats 4000000

/-- It takes just these bytes, whatever stands behind them; a part of them ends too early. -/
structure Eats {α : Type} (f : Bs → R3 α) (b : Bs) (a : α) : Prop where
  all : ∀ t, f (b ++ t) = .ok a t
  cut : ∀ s c t, b = s ++ c :: t → f s = .short
theorem Eats.bind {α β : Type} {f : Bs → R3 α} {g : α → Bs → R3 β} {b c : Bs} {a : α} {d : β} (hf : Eats f b a) (hg : Eats (g a) c d) : Eats (fun r => (f r).bind g) (b ++ c) d := by
  constructor
  · intro t
    show (f (b ++ c ++ t)).bind g = _
    rw [List.append_assoc, hf.all, R3.bind_ok, hg.all]
  · intro s e t h
    show (f s).bind g = _
    rcases List.append_eq_append_iff.mp h with ⟨u, h1, h2⟩ | ⟨u, h1, h2⟩
    · rw [h1, hf.all, R3.bind_ok]
      exact hg.cut _ _ _ h2
    · cases u with
      | nil =>
        rw [List.append_nil] at h1
        rw [List.nil_append] at h2
        have := hf.all []
        rw [List.append_nil, h1] at this
        rw [this, R3.bind_ok]
        exact hg.cut [] _ _ h2.symm
      | cons x u =>
        rw [hf.cut s x u h1]; rfl
theorem Eats.ok {α : Type} (a : α) : Eats (fun t => R3.ok a t) [] a := ⟨fun _ => rfl, fun s c t h => by cases s <;> cases h⟩
theorem Eats.map {α β : Type} {f : Bs → R3 α} {g : α → Bs → R3 β} {b : Bs} {a : α} {d : β} (hf : Eats f b a) (hg : ∀ t, g a t = .ok d t) : Eats (fun r => (f r).bind g) b d := by
  have : Eats (g a) [] d := by
    rw [show g a = fun t => R3.ok d t from funext hg]; exact Eats.ok d
  have h := Eats.bind hf this
  rwa [List.append_nil] at h
theorem Eats.congr {α : Type} {f g : Bs → R3 α} {b : Bs} {a : α} (h : ∀ r, (∃ t, r = b ++ t) ∨ (∃ c t, b = r ++ c :: t) → f r = g r) (hg : Eats g b a) : Eats f b a :=
  ⟨fun t => by rw [h _ (.inl ⟨t, rfl⟩)]; exact hg.all t, fun s c t e => by rw [h _ (.inr ⟨c, t, e⟩)]; exact hg.cut s c t e⟩
theorem Eats.fuel {α : Type} {F : Nat → Bs → R3 α} {b : Bs} {a : α} (m : Nat) (hF : ∀ n, m < n → Eats (F n) b a) (hm : m ≤ b.length) (hf : ∀ n k r, r.length < n → r.length < k → F n r = F k r) : Eats (fun r => F (r.length + 1) r) b a := by
  constructor
  · intro t
    exact (hF _ (by rw [List.length_append]; omega)).all t
  · intro s c t h
    show F (s.length + 1) s = _
    rw [hf _ (s.length + m + 1) s (by omega) (by omega)]
    exact (hF _ (by omega)).cut s c t h
theorem eats_text (s : Bs) : Eats (textL s) s () := by
  constructor
  · exact text_self s
  · intro u c t h
    have e := text_self u []
    rw [List.append_nil] at e
    rw [h, text_app, e, R3.bind_ok, text_none _ (by simp)]
/-- A byte of the beginning. -/
theorem at_head {b r : Bs} {x : UInt8} (hb : b.head? = some x) (h : (∃ t, r = b ++ t) ∨ (∃ c t, b = r ++ c :: t)) : r = [] ∨ r.head? = some x := by
  rcases h with ⟨t, rfl⟩ | ⟨c, t, rfl⟩
  · right; rw [List.head?_append, hb]; rfl
  · cases r with
    | nil => left; rfl
    | cons y r => right; simpa using hb

/-! ## The first line -/
theorem eats_dig (i : Nat) (st : Int) (c : UInt8) (h : dgB c = true) (hi : i = 0 → dsB c = true) : Eats (digL i st) [c] (10 * st + ((c.toNat : Int) - 48)) := by
  constructor
  · intro t
    show digL i st (c :: t) = _
    by_cases h0 : i = 0
    · subst h0
      rw [digL_in, if_pos (hi rfl)]
    · exact digL_yes i st c t h h0
  · intro s e t he
    cases s with
    | nil => rfl
    | cons y s => simp at he
theorem dig_of (a : Fin 10) : dgB (UInt8.ofNat (48 + a.val)) = true ∧ ((UInt8.ofNat (48 + a.val)).toNat : Int) - 48 = a.val ∧ (2 ≤ a.val → a.val ≤ 5 → dsB (UInt8.ofNat (48 + a.val)) = true) := by
  revert a; decide
theorem eats_status (st : Int) (h1 : 200 ≤ st) (h2 : st ≤ 599) : Eats statusL (startR st) st := by
  obtain ⟨a, b, c, ha, hst⟩ : ∃ a b c : Fin 10, (2 ≤ a.val ∧ a.val ≤ 5) ∧ st = ((100 * a.val + 10 * b.val + c.val : Nat) : Int) := by
    refine ⟨⟨(st / 100).toNat, by omega⟩, ⟨(st / 10 % 10).toNat, by omega⟩, ⟨(st % 10).toNat, by omega⟩, ⟨?_, ?_⟩, ?_⟩
    · show 2 ≤ (st / 100).toNat; omega
    · show (st / 100).toNat ≤ 5; omega
    · show st = ((100 * (st / 100).toNat + 10 * (st / 10 % 10).toNat + (st % 10).toNat : Nat) : Int); omega
  obtain ⟨da, va, sa⟩ := dig_of a
  obtain ⟨db, vb, -⟩ := dig_of b
  obtain ⟨dc, vc, -⟩ := dig_of c
  have hd : digs 10 st.toNat = [UInt8.ofNat (48 + a.val), UInt8.ofNat (48 + b.val), UInt8.ofNat (48 + c.val)] := by
    rw [hst, Int.toNat_natCast]
    exact digs3 a b c (by rintro rfl; exact absurd ha.1 (by decide))
  have he : startR st = begB ++ ([UInt8.ofNat (48 + a.val)] ++ ([UInt8.ofNat (48 + b.val)] ++ ([UInt8.ofNat (48 + c.val)] ++ phrL st))) := by
    rw [startR, hd, phrL]; simp
  have ha' : (10 * (0 : Int) + (((UInt8.ofNat (48 + a.val)).toNat : Int) - 48)) = a.val := by rw [va]; omega
  have hb' : (10 * (a.val : Int) + (((UInt8.ofNat (48 + b.val)).toNat : Int) - 48)) = 10 * a.val + b.val := by rw [vb]
  have hc' : (10 * (10 * (a.val : Int) + b.val) + (((UInt8.ofNat (48 + c.val)).toNat : Int) - 48)) = st := by rw [vc, hst]; push_cast; omega
  have e1 := eats_dig 0 0 _ da (fun _ => sa ha.1 ha.2)
  rw [ha'] at e1
  have e2 := eats_dig 1 (a.val : Int) _ db (by simp)
  rw [hb'] at e2
  have e3 := eats_dig 2 (10 * (a.val : Int) + b.val) _ dc (by simp)
  rw [hc'] at e3
  rw [he]
  exact Eats.bind (eats_text begB) (Eats.bind e1 (Eats.bind e2 (Eats.bind e3 (Eats.map (eats_text (phrL st)) fun t => rfl))))

/-! ## Fields -/
theorem vl13 : vlB 13 = false := by decide
theorem eats_val (v : Bs) (hv : allV v = true) (ht : trimL v = v) : Eats valL (v ++ crlf) v := by
  have hF := trimL_fixF v ht
  rw [allV_vl] at hv
  constructor
  · intro t
    obtain ⟨h1, h2⟩ := take_app vlB 13 vl13 (10 :: t) v hv
    have e : v ++ crlf ++ t = v ++ 13 :: 10 :: t := by simp [crlf]
    rw [e, valL, h1, h2, if_neg (by simpa using hF), if_neg (by simp), if_neg (by simpa using ht)]
    rw [show (13 :: 10 :: t : Bs) = crlf ++ t from rfl, text_self]; rfl
  · intro s c t h
    rcases List.append_eq_append_iff.mp h with ⟨u, h1, h2⟩ | ⟨u, h1, h2⟩
    · -- s = v ++ u, crlf = u ++ c :: t
      cases u with
      | nil =>
        rw [List.append_nil] at h1
        subst h1
        obtain ⟨e1, e2⟩ := take_end vlB s hv
        rw [valL, e1, e2, if_neg (by simpa using hF), if_pos rfl]
      | cons x u =>
        cases u with
        | nil =>
          simp only [crlf, List.cons_append, List.nil_append, List.cons.injEq] at h2
          obtain ⟨rfl, -⟩ := h2
          subst h1
          obtain ⟨e1, e2⟩ := take_app vlB 13 vl13 [] v hv
          rw [valL, e1, e2, if_neg (by simpa using hF), if_neg (by simp), if_neg (by simpa using ht)]; rfl
        | cons y u => simp [crlf] at h2
    · -- v = s ++ u
      have hs : s.all vlB = true := by
        rw [h1, List.all_append, Bool.and_eq_true] at hv; exact hv.1
      obtain ⟨e1, e2⟩ := take_end vlB s hs
      have hFs : trimF s = s := by
        have a1 := trimF_fix v
        rw [decide_eq_true hF] at a1
        have a2 := trimF_fix s
        cases s with
        | nil => rfl
        | cons x s =>
          rw [h1] at a1
          have a3 : decide (trimF (x :: s) = x :: s) = true := by
            rw [a2]
            simpa using a1
          exact of_decide_eq_true a3
      rw [valL, e1, e2, if_neg (by simpa using hFs), if_pos rfl]
theorem own_not (nb : Bool) (n : Bs) (h : ownN n = false) : (oursL nb).contains n = false := by
  cases nb
  · simp only [oursL, Bool.false_eq_true, if_false, List.contains_cons, List.contains_nil, Bool.or_false, Bool.or_eq_false_iff, beq_eq_false_iff_ne]
    exact ⟨by (rintro rfl; rw [own_te] at h; cases h), by (rintro rfl; rw [own_cl] at h; cases h)⟩
  · simp only [oursL, if_true, List.contains_cons, List.contains_nil, Bool.or_false, beq_eq_false_iff_ne]
    rintro rfl; rw [own_co] at h; cases h
theorem full_no (o : List Bs) (nf : Nat) (s : Bs) (h : nf < 24) : fullL o nf s = false := by
  rw [fullL, decide_eq_false (by omega), Bool.false_and]
theorem eats_name (nb : Bool) (nf : Nat) (n : Bs) (hn : allT n = true) (h0 : 0 < n.length) (ho : ownN n = false) (hf : nf < 24) : Eats (nameL (oursL nb) nf) (n ++ csB) n := by
  have hn' : n.all tkB = true := hn
  constructor
  · intro t
    obtain ⟨h1, h2⟩ := take_app tkB 58 tk58 (32 :: t) n hn'
    have e : n ++ csB ++ t = n ++ 58 :: 32 :: t := by simp [csB]
    rw [e, nameL, h1, h2, if_neg (by simp), own_not nb n ho, if_neg (by simp), ho, if_neg (by simp; exact ⟨by rintro rfl; simp at h0, hf⟩)]
    rw [show (58 :: 32 :: t : Bs) = csB ++ t from rfl, text_self]; rfl
  · intro s c t h
    rcases List.append_eq_append_iff.mp h with ⟨u, h1, h2⟩ | ⟨u, h1, h2⟩
    · cases u with
      | nil =>
        rw [List.append_nil] at h1
        subst h1
        obtain ⟨e1, e2⟩ := take_end tkB s hn'
        rw [nameL, e1, e2, if_pos rfl, full_no _ _ _ hf]; rfl
      | cons x u =>
        cases u with
        | nil =>
          simp only [csB, List.cons_append, List.nil_append, List.cons.injEq] at h2
          obtain ⟨rfl, -⟩ := h2
          subst h1
          obtain ⟨e1, e2⟩ := take_app tkB 58 tk58 [] n hn'
          rw [nameL, e1, e2, if_neg (by simp), own_not nb n ho, if_neg (by simp), ho, if_neg (by simp; exact ⟨by rintro rfl; simp at h0, hf⟩)]; rfl
        | cons y u => simp [csB] at h2
    · have hs : s.all tkB = true := by
        rw [h1, List.all_append, Bool.and_eq_true] at hn'; exact hn'.1
      obtain ⟨e1, e2⟩ := take_end tkB s hs
      rw [nameL, e1, e2, if_pos rfl, full_no _ _ _ hf]; rfl
/-- Fields that may be written. -/
def FdsOk (l : List Fd) : Prop := ∀ f ∈ l, isF f = true ∧ ownN f.1 = false
theorem tk_head (n : Bs) (hn : allT n = true) (h0 : 0 < n.length) : ∃ x, n.head? = some x ∧ x ≠ 13 := by
  cases n with
  | nil => simp at h0
  | cons x n =>
    refine ⟨x, rfl, ?_⟩
    have : tkB x = true := by
      have h : (x :: n).all tkB = true := hn
      rw [List.all_cons, Bool.and_eq_true] at h; exact h.1
    exact (tk_no x this).2.1
theorem name_nil (nb : Bool) (nf : Nat) (h : nf < 24) : nameL (oursL nb) nf [] = .short := by
  rw [nameL]; simp [full_no _ _ _ h]
theorem flds_open (nb : Bool) (n : Nat) (fs : List Fd) (r : Bs) (x : UInt8) (hx : x ≠ 13) (hr : r = [] ∨ r.head? = some x) (h : fs.length < 24) :
    fldsL nb (n + 1) fs r = (nameL (oursL nb) fs.length r).bind fun s t => if ownN s then .ok (fs, s) t else (valL t).bind fun v t => fldsL nb n (fs ++ [(s, v)]) t := by
  rw [fldsL]
  rcases hr with rfl | hr
  · rw [name_nil _ _ h]
    cases nb <;> simp [R3.bind]
  · rw [if_neg (by rintro ⟨-, rfl⟩; cases hr), if_neg (by rintro ⟨-, h2⟩; rw [hr] at h2; cases h2; exact hx rfl)]
/-- Fields, and what stands behind them. -/
theorem eats_flds {α : Type} (nb : Bool) (K : List Fd × Bs → Bs → R3 α) (b : Bs) (a : α) : ∀ (l fs : List Fd) (n : Nat), FdsOk l → fs.length + l.length ≤ 24 → l.length < n →
    (∀ m, 0 < m → Eats (fun r => (fldsL nb m (fs ++ l) r).bind K) b a) → Eats (fun r => (fldsL nb n fs r).bind K) (rfsL l ++ b) a
  | [], fs, n, _, _, hn, hb => by
    have := hb n hn
    rwa [List.append_nil] at this
  | f :: l, fs, n, hok, hl, hn, hb => by
    rw [List.length_cons] at hl hn
    obtain ⟨m, rfl⟩ : ∃ m, n = m + 1 := ⟨n - 1, by omega⟩
    obtain ⟨hF, ho⟩ := hok f List.mem_cons_self
    obtain ⟨p1, p2, p3, p4⟩ := isF_parts f hF
    have ih := eats_flds nb K b a l (fs ++ [f]) m (fun g hg => hok g (List.mem_cons_of_mem _ hg)) (by rw [List.length_append, List.length_singleton]; omega) (by omega) (by rw [List.append_assoc]; exact hb)
    have e1 := Eats.bind (eats_val f.2 p3 p4) (g := fun v t => (fldsL nb m (fs ++ [(f.1, v)]) t).bind K) ih
    have e2 := Eats.bind (eats_name nb fs.length f.1 p1 p2 ho (by omega)) (g := fun s t => if ownN s then K (fs, s) t else (valL t).bind fun v t => (fldsL nb m (fs ++ [(s, v)]) t).bind K)
      (by simpa only [ho, Bool.false_eq_true, if_false] using e1)
    have e : rfsL (f :: l) ++ b = f.1 ++ csB ++ (f.2 ++ crlf ++ (rfsL l ++ b)) := by simp [rfsL, rfL]
    rw [e]
    obtain ⟨x, hx, hx13⟩ := tk_head f.1 p1 p2
    refine Eats.congr (fun r hr => ?_) e2
    have hh := at_head (x := x) (by rw [List.append_assoc, List.head?_append, hx]; rfl) hr
    rw [flds_open nb m fs r x hx13 hh (by omega), R3.bind_bind]
    congr 1
    funext s t
    rw [R3.bind_if, R3.bind_ok, R3.bind_bind]

/-! ## Behind the fields -/
theorem eats_own {α : Type} (nb : Bool) (K : List Fd × Bs → Bs → R3 α) (l : List Fd) (o w : Bs) (a : α) (ho : (oursL nb).contains o = true) (hot : o.all tkB = true) (hO : ownN o = true) (h13 : o.head? ≠ some 13) (h0 : o ≠ [])
    (hK : Eats (K (l, o)) (o ++ 58 :: w) a) (m : Nat) (hm : 0 < m) : Eats (fun r => (fldsL nb m l r).bind K) (o ++ 58 :: w) a := by
  obtain ⟨m, rfl⟩ : ∃ k, m = k + 1 := ⟨m - 1, by omega⟩
  have hshort : ∀ s u : Bs, o = s ++ u → (nameL (oursL nb) l.length s) = .short := by
    intro s u hu
    have hs : s.all tkB = true := by
      rw [hu, List.all_append, Bool.and_eq_true] at hot; exact hot.1
    obtain ⟨e1, e2⟩ := take_end tkB s hs
    rw [nameL, e1, e2, if_pos rfl]
    have : ((oursL nb).all fun o => !s.isPrefixOf o) = false := by
      rw [List.all_eq_false]
      refine ⟨o, by simpa using ho, ?_⟩
      rw [(pfx_iff s o).mpr ⟨u, hu.symm⟩]; simp
    rw [fullL, this, Bool.and_false]; rfl
  have hyes : ∀ w', nameL (oursL nb) l.length (o ++ 58 :: w') = .ok o (o ++ 58 :: w') := by
    intro w'
    obtain ⟨e1, e2⟩ := take_app tkB 58 tk58 w' o hot
    rw [nameL, e1, e2, if_neg (by simp), if_pos ho]
  have hstep : ∀ r : Bs, r.head? ≠ some 13 → (nb = true → r ≠ []) → (fldsL nb (m + 1) l r).bind K = ((nameL (oursL nb) l.length r).bind fun s t => if ownN s then .ok (l, s) t else (valL t).bind fun v t => fldsL nb m (l ++ [(s, v)]) t).bind K := by
    intro r h1 h2
    rw [fldsL, if_neg (by rintro ⟨h3, h4⟩; exact h2 h3 h4), if_neg (by rintro ⟨-, h4⟩; exact h1 h4)]
  constructor
  · intro t
    show (fldsL nb (m + 1) l (o ++ 58 :: w ++ t)).bind K = _
    have e : o ++ 58 :: w ++ t = o ++ 58 :: (w ++ t) := by simp
    have hh : (o ++ 58 :: (w ++ t)).head? ≠ some 13 := by
      cases o with
      | nil => exact absurd rfl h0
      | cons x o => exact h13
    rw [e, hstep _ hh (by intro _; simp), hyes, R3.bind_ok, if_pos hO, R3.bind_ok, ← e]
    exact hK.all t
  · intro s c t h
    show (fldsL nb (m + 1) l s).bind K = _
    have hsh : ∀ u : Bs, o = s ++ u → (fldsL nb (m + 1) l s).bind K = .short := by
      intro u hu
      by_cases hn : nb = true ∧ s = []
      · rw [fldsL, if_pos hn]; rfl
      · rw [hstep s (by
          cases s with
          | nil => simp
          | cons x s => rw [hu] at h13; exact h13) (by intro a b; exact hn ⟨a, b⟩), hshort s u hu]; rfl
    rcases List.append_eq_append_iff.mp h with ⟨u, h1, h2⟩ | ⟨u, h1, h2⟩
    · cases u with
      | nil =>
        rw [List.append_nil] at h1
        exact hsh [] (by rw [h1, List.append_nil])
      | cons x u =>
        rw [List.cons_append, List.cons.injEq] at h2
        obtain ⟨rfl, h2⟩ := h2
        subst h1
        have hh : (o ++ 58 :: u).head? ≠ some 13 := by
          cases o with
          | nil => exact absurd rfl h0
          | cons x o => exact h13
        rw [hstep _ hh (by intro _; simp), hyes, R3.bind_ok, if_pos hO, R3.bind_ok]
        exact hK.cut _ c t h
    · exact hsh u h1
theorem eats_stop {α : Type} (K : List Fd × Bs → Bs → R3 α) (l : List Fd) (w : Bs) (a : α) (hK : Eats (K (l, [])) (13 :: w) a) (m : Nat) (hm : 0 < m) : Eats (fun r => (fldsL true m l r).bind K) (13 :: w) a := by
  obtain ⟨m, rfl⟩ : ∃ k, m = k + 1 := ⟨m - 1, by omega⟩
  have hs : ∀ r : Bs, r.head? = some 13 → (fldsL true (m + 1) l r).bind K = K (l, []) r := by
    intro r h
    rw [fldsL, if_neg (by rintro ⟨-, rfl⟩; cases h), if_pos ⟨rfl, h⟩]; rfl
  constructor
  · intro t
    show (fldsL true (m + 1) l (13 :: w ++ t)).bind K = _
    rw [hs _ rfl]; exact hK.all t
  · intro s c t h
    cases s with
    | nil => show (fldsL true (m + 1) l []).bind K = _; rw [fldsL, if_pos ⟨rfl, rfl⟩]; rfl
    | cons x s =>
      rw [List.cons_append, List.cons.injEq] at h
      obtain ⟨rfl, h⟩ := h
      show (fldsL true (m + 1) l (13 :: s)).bind K = _
      rw [hs _ rfl]; exact hK.cut _ c t (by rw [h]; rfl)
theorem conn_open {α : Type} (ch : Bool) (k : Bool → Bs → R3 α) (x : UInt8) (r : Bs) (h : r = [] ∨ r.head? = some x) :
    connT ch k r = if x = 107 ∧ ch = false then (textL keepL r).bind fun _ t => k false t else (textL closL r).bind fun _ t => k true t := by
  rcases h with rfl | h
  · rw [connT]; split <;> rfl
  · cases r with
    | nil => cases h
    | cons y r => cases h; rw [connT]
theorem ends_open (ch : Bool) (x : UInt8) (r : Bs) (h : r = [] ∨ r.head? = some x) :
    endsL ch r = if x = 13 then (textL crlf r).bind fun _ t => .ok false t
      else (textL (coN ++ csB) r).bind fun _ t => connT ch (fun b t => (textL crlf t).bind fun _ t => .ok b t) t := by
  rcases h with rfl | h
  · rw [endsL]; split <;> rfl
  · cases r with
    | nil => cases h
    | cons y r => cases h; rw [endsL]
theorem eats_conn (ch : Bool) (close : Bool) (T : Bs) (hT : T = if close then closL else keepL) (hc : close = false → ch = false) :
    Eats (endsL ch) (coN ++ csB ++ (T ++ crlf)) close := by
  refine Eats.congr (fun r hr => (ends_open ch 67 r (at_head rfl hr)).trans (if_neg (by decide))) ?_
  refine Eats.bind (eats_text _) ?_
  cases close
  · have hch := hc rfl
    subst hch
    rw [if_neg (by simp)] at hT
    subst hT
    refine Eats.congr (fun r hr => (conn_open false _ 107 r (at_head rfl hr)).trans (if_pos ⟨rfl, rfl⟩)) ?_
    exact Eats.bind (eats_text keepL) (Eats.map (eats_text crlf) fun _ => rfl)
  · rw [if_pos rfl] at hT
    subst hT
    refine Eats.congr (fun r hr => (conn_open ch _ 99 r (at_head rfl hr)).trans (if_neg (by rintro ⟨h, -⟩; exact absurd h (by decide)))) ?_
    exact Eats.bind (eats_text closL) (Eats.map (eats_text crlf) fun _ => rfl)
theorem eats_ends (ch : Bool) (minor : Int) (close : Bool) (h : ch = true → 0 < minor) : Eats (endsL ch) (lastR minor close ++ crlf) close := by
  rw [lastR]
  cases close
  · rw [if_neg (by simp)]
    by_cases hm : minor < 1
    · rw [if_pos hm]
      have e : ckS ++ crlf ++ crlf = coN ++ csB ++ (keepL ++ crlf) := by simp [ckS, keepL]
      rw [e]
      exact eats_conn ch false keepL rfl (fun _ => by cases ch; rfl; exact absurd (h rfl) (by omega))
    · rw [if_neg hm, List.nil_append]
      refine Eats.congr (fun r hr => (ends_open ch 13 r (at_head rfl hr)).trans (if_pos rfl)) ?_
      exact Eats.map (eats_text crlf) fun _ => rfl
  · rw [if_pos rfl]
    have e : ccS ++ crlf ++ crlf = coN ++ csB ++ (closL ++ crlf) := by simp [ccS, closL]
    rw [e]
    exact eats_conn ch true closL rfl (by simp)
theorem eats_data (d : Bs) : Eats (dataL d.length) d d := by
  constructor
  · intro t
    rw [dataL, if_neg (by rw [List.length_append]; omega), List.take_left, List.drop_left]
  · intro s c t h
    rw [dataL, if_pos (by rw [h, List.length_append, List.length_cons]; omega)]
theorem eats_numb {β : Type} (most : Nat) (p : UInt8 → Bool) (hp : p 13 = false) (s w : Bs) (g : Bs → Bs → R3 β) (d : β) (h0 : s ≠ []) (ha : s.all p = true) (hl : s.length ≤ most) (h48 : s = [48] ∨ s.head? ≠ some 48)
    (hg : Eats (g s) (13 :: w) d) (hn : ∀ u v, u ≠ [] → s = u ++ v → g u [] = .short) : Eats (fun r => (numbL most p r).bind g) (s ++ 13 :: w) d := by
  have hall : ∀ t, numbL most p (s ++ 13 :: t) = .ok s (13 :: t) := by
    intro t
    cases s with
    | nil => exact absurd rfl h0
    | cons c s =>
      rw [List.cons_append, numbL]
      by_cases hc : c = 48
      · subst hc
        rcases h48 with h | h
        · rw [List.cons.injEq] at h
          rw [if_pos rfl, h.2]; rfl
        · exact absurd rfl h
      · rw [if_neg hc]
        have e : ((c :: (s ++ 13 :: t)).take most).takeWhile p = c :: s := by
          rw [← List.cons_append, List.take_append]
          rw [List.take_of_length_le hl]
          cases hk : most - (c :: s).length with
          | zero => rw [List.take_zero, List.append_nil]; exact (take_end p _ ha).1
          | succ k => rw [List.take_succ_cons]; exact (take_app p 13 hp _ _ ha).1
        rw [e, if_neg (by simp), ← List.cons_append, List.drop_left]
  have hpart : ∀ u v, u ≠ [] → s = u ++ v → numbL most p u = .ok u [] := by
    intro u v hu h
    have hua : u.all p = true := by
      rw [h, List.all_append, Bool.and_eq_true] at ha; exact ha.1
    cases u with
    | nil => exact absurd rfl hu
    | cons c u =>
      rw [numbL]
      by_cases hc : c = 48
      · subst hc
        rcases h48 with h4 | h4
        · rw [h4, List.cons_append, List.cons.injEq] at h
          have := h.2.symm
          rw [List.append_eq_nil_iff] at this
          rw [if_pos rfl, this.1]
        · rw [h] at h4; exact absurd rfl h4
      · rw [if_neg hc]
        have hlu : (c :: u).length ≤ most := by
          have : s.length = (c :: u).length + v.length := by rw [h, List.length_append]
          omega
        rw [List.take_of_length_le hlu, (take_end p _ hua).1, if_neg (by simp), List.drop_length]
  constructor
  · intro t
    show (numbL most p (s ++ 13 :: w ++ t)).bind g = _
    rw [List.append_assoc, List.cons_append, hall, R3.bind_ok, ← List.cons_append]
    exact hg.all t
  · intro u c t h
    show (numbL most p u).bind g = _
    rcases List.append_eq_append_iff.mp h with ⟨v, h1, h2⟩ | ⟨v, h1, h2⟩
    · cases v with
      | nil =>
        rw [List.append_nil] at h1
        rw [hpart u [] (by rw [h1]; exact h0) (by rw [h1, List.append_nil]), R3.bind_ok]
        exact hn u [] (by rw [h1]; exact h0) (by rw [h1, List.append_nil])
      | cons x v =>
        rw [List.cons_append, List.cons.injEq] at h2
        obtain ⟨rfl, h2⟩ := h2
        subst h1
        rw [hall, R3.bind_ok]
        exact hg.cut _ c t (by rw [h2]; rfl)
    · by_cases hu : u = []
      · subst hu; rfl
      · rw [hpart u v hu h1, R3.bind_ok]
        exact hn u v hu h1
end Go.Proofs.YtlambdccmfnloaaDoor
