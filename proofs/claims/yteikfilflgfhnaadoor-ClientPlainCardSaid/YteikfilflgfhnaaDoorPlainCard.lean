/- THE CARD OF 'usherlaw26.ClientPlain': a request for a path, and one with a body, are the document's, and the body stays. No condition. -/
import Derived.Test.YteikfilflgfhnaaDoorCPlain
import Derived.Test.YteikfilflgfhnaaDoorOpen
import Derived.Test.YteikfilflgfhnaaDoorEnd
import Derived.Test.YteikfilflgfhnaaDoorCards
import Derived.ChangeMaps5
namespace Go.Proofs.YteikfilflgfhnaaDoor.clientPlain
open Go.ChangeShapes Go.WideShapes Go.ChangeAt Go.RowKit
set_option maxRecDepth 100000
theorem gTab : Tryd.prog.globalNamed "internal/strconv.uint64pow10" = some 3 := by kernel_rfl
theorem tab {W : World} (h : laidMetH Tryd.prog Rows.clientPlainRow.laid W) : Tab10 W := by
  have h' : laidMet Tryd.prog Rows.clientPlainRow.laid W := h
  exact Lib.tabIs_of_head gTab (t := 108) (by kernel_rfl) Tryd.underlying108 Tryd.underlying90 (by kernel_rfl) (by kernel_rfl) h'.tail.tail
theorem laid_met (os : Os) (args : Array Value) : laidMet Tryd.prog Rows.clientPlainRow.laid ((World.laidAll Tryd.prog os Rows.clientPlainRow.laid).forCall (fun _ _ => 0) ⟨#[], args, []⟩).memory :=
  laidMet_laidAll args (by kernel_rfl) (by kernel_rfl)
theorem contract (H : Type) (enc : TypeId × Value → H) (W : World) (base : Nat) (args : Array Value) (ds gs : List (DataW H)) (before : List MemPlace)
    (hval : ∀ (j : Nat) t v, Tryd.f3.params[j]? = some t → args[j]? = some v → Value.okWide Tryd.prog W .any base t v)
    (hW : DataW.Whole enc Tryd.prog Tryd.f3.params.toList Rows.clientPlainSpec.vars false W args.toList ds gs before) (hL : laidMetH Tryd.prog Rows.clientPlainRow.laid W) (hsz : (DataW.weightsEach Tryd.prog (Tryd.f3.params.toList ++ []) (ds ++ gs)).all (· ≤ reachBytes) = true) :
    Calls Tryd.prog 3 args W fun e W' => ∃ v, e = .returned v ∧ Rows.clientPlainSpec.post enc Tryd.prog Tryd.f3 false true false false W args v W' := by
  have hW' := hW
  obtain ⟨p, q, hA, hV, -, -, -⟩ := hW
  rw [Tryd.params3] at hA hval hsz
  obtain ⟨v0, vs0, d0, ds0, p0, q0, hargs0, rfl, rfl, h0, r0⟩ := trodAll_cons hA
  obtain ⟨v1, vs1, d1, ds1, p1, q1, hargs1, rfl, rfl, h1, r1⟩ := trodAll_cons r0
  obtain ⟨v2, vs2, d2, ds2, p2, q2, hargs2, rfl, rfl, h2, r2⟩ := trodAll_cons r1
  obtain ⟨rfl, rfl, rfl⟩ := trodAll_nil r2
  obtain rfl : args = #[v0, v1, v2] := by cases args; simp_all
  obtain ⟨a, rfl, rfl, rfl, wa⟩ := Go.ChangeMaps.open_string Tryd.underlying9 (hval 0 _ _ rfl rfl) h0
  obtain ⟨A1, n1, cp1, b, rfl, hnc1, hcm1, hB1⟩ := open_bytes (hval 1 _ _ rfl rfl) h1
  obtain ⟨A, n, cp, l, rfl, hnc, hcm, hA1, hw⟩ := open_fds (hval 2 _ _ rfl rfl) h2
  have hz : ∀ m ∈ d2.weights Tryd.prog 23, m ≤ reachBytes := fun m hm => by simpa using List.all_eq_true.1 hsz m (DataW.weights_mem_each (j := 2) rfl rfl m hm)
  refine (law_Plain a A1 n1 cp1 b A n cp l W hB1 hA1 (fun f hf => ⟨Nat.le_trans (hz _ (hw f hf).1) (by decide), Nat.le_trans (hz _ (hw f hf).2) (by decide)⟩) (Nat.le_trans hnc hcm) (Nat.le_trans hnc1 hcm1) wa (tab hL)).mono fun e W' ⟨he, hb⟩ => ?_
  exact ⟨_, he, post_true kids0 full0 (by rw [Tryd.params3]; decide) hW' rfl rfl rfl rfl hb (by rfl) Tryd.underlying4⟩
theorem reads (os : Os) {H : Type} (enc : TypeId × Value → H) : ∃ places, DataW.whole enc Tryd.prog ((World.laidAll Tryd.prog os Rows.clientPlainRow.laid).forCall (fun _ _ => 0) ⟨#[], #[.string ⟨#[]⟩, .slice none 0 0, .slice none 0 0], []⟩).memory Tryd.f3.params.toList Rows.clientPlainSpec.vars false (#[.string ⟨#[]⟩, .slice none 0 0, .slice none 0 0] : Array Value).toList 8 = some ([.lit (.string []), .nil, .nil], [], places) :=
  ⟨[], by kernel_rfl⟩
theorem lifted (os : Os) (started : os.Started) (H : Type) (enc : TypeId × Value → H) (F : Stop.Interp) :
    ReturnsInHanded {} Tryd.checked os 3 .any ((OpenSpec.ofChange Rows.clientPlainSpec).preRow enc Tryd.prog Tryd.f3 Rows.clientPlainRow.domain false Rows.clientPlainRow.laid) (((OpenSpec.ofChange Rows.clientPlainSpec).at F).post enc Tryd.prog Tryd.f3 false true false false) := by
  obtain ⟨places, hx⟩ := reads os enc
  refine returnsInHanded_of_row (C := Tryd.checked) (s := OpenSpec.ofChange Rows.clientPlainSpec) own0 started (by kernel_rfl) Tryd.func3
    (witness_row_atRef (enc := enc) (C := Tryd.checked) false (World.laidAll Tryd.prog os Rows.clientPlainRow.laid) #[.string ⟨#[]⟩, .slice none 0 0, .slice none 0 0] (World.laidAll_os _ _ _) (by kernel_rfl) (by kernel_rfl) (by kernel_rfl)
      (OpenSpec.preRow_of_cond 8 hx (by kernel_rfl) (fun k hk => by cases hk) (by kernel_rfl) (laid_met os _))) ?_
  intro W base args ds gs before hval hW _ _ hsz hL _ _
  exact contract H enc W base args ds gs before hval hW hL hsz
theorem said : Rows.ClientPlainSaid :=
  OpenClaim.holds_of_cond 3 Tryd.f3 rfl rfl rfl rfl rfl rfl rfl ⟨rfl, rfl, rfl, rfl, rfl⟩ rfl rfl rfl rfl rfl (by kernel_rfl) Tryd.func3 (by kernel_rfl)
    (of_decide_eq_true (by kernel_rfl)) (by unfold Func.isWrapper; first | (rw [if_pos (by decide +kernel)]; kernel_rfl) | (rw [if_neg (by decide +kernel)]; exact ⟨rfl, rfl⟩))
    (fun os started H enc _ F => by rw [OpenClaim.pre_eq_preRow]; exact lifted os started H enc F)
theorem stand0 : Tryd.prog.wantsStandIn 9 = false := by kernel_rfl
theorem stand1 : Tryd.prog.wantsStandIn 22 = false := by kernel_rfl
theorem stand2 : Tryd.prog.wantsStandIn 23 = false := by kernel_rfl
theorem plain (f : FuncId) (fn : Func) (hf : Tryd.pinned.checked.prog.funcNamed "usher/usherlaw26.ClientPlain" = some f) (hfn : Tryd.pinned.checked.prog.funcs[f]? = some fn) :
    true = Tryd.pinned.checked.prog.looks [] ∧ ∀ (j : Nat) t, fn.params[j]? = some t → Tryd.pinned.checked.prog.wantsStandIn t = false := by
  obtain rfl : f = 3 := Option.some.inj ((show Tryd.prog.funcNamed "usher/usherlaw26.ClientPlain" = some 3 by kernel_rfl).symm.trans hf) |>.symm
  obtain rfl : fn = Tryd.f3 := (Option.some.inj (Tryd.func3.symm.trans hfn)).symm
  refine ⟨by kernel_rfl, fun j t ht => ?_⟩
  rw [Tryd.params3] at ht
  have hm : t = 9 ∨ t = 22 ∨ t = 23 := by simpa using Array.mem_of_getElem? ht
  rcases hm with rfl | rfl | rfl
  · exact stand0
  · exact stand1
  · exact stand2
/-- THE CARD. -/
theorem card : Rows.ClientPlainCardSaid :=
  Claim7.holds_tied_plain_at .later [] _ _ _ _ said (fun _ h => by cases h) (by kernel_rfl) (fun _ h => by cases h) clientPlain_row_tie rfl ⟨rfl, rfl⟩ (by kernel_rfl) rfl plain (by kernel_rfl)
end Go.Proofs.YteikfilflgfhnaaDoor.clientPlain
