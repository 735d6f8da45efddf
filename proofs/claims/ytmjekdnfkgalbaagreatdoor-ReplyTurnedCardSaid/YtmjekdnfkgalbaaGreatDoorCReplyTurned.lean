/- THE CARD OF 'usherlaw18.ReplyTurned': a response of which one byte is another one reads as the document says. No condition. -/
import Derived.Test.YtmjekdnfkgalbaaGreatDoorRgK
import Derived.Test.YtmjekdnfkgalbaaGreatDoorOpenRs
import Derived.Test.YtmjekdnfkgalbaaGreatDoorEnd
import Derived.Test.YtmjekdnfkgalbaaGreatDoorCards
import Derived.ChangeMaps5
import Derived.SizedLaws
namespace Go.Proofs.YtmjekdnfkgalbaaGreatDoor.replyTurned
open Go.ChangeShapes Go.WideShapes Go.ChangeAt Go.RowKit
set_option maxRecDepth 100000
theorem gTab : Tryz.prog.globalNamed "internal/strconv.uint64pow10" = some 3 := by kernel_rfl
theorem tab {W : World} (h : laidMetH Tryz.prog Rows.replyTurnedRow.laid W) : Tab10 W := by
  have h' : laidMet Tryz.prog Rows.replyTurnedRow.laid W := h
  exact Lib.tabIs_of_head gTab (t := 155) (by kernel_rfl) Tryz.underlying155 Tryz.underlying139 (by kernel_rfl) (by kernel_rfl) h'.tail.tail
theorem gTz : Tryz.prog.globalNamed "math/bits.deBruijn64tab" = some 7 := by kernel_rfl
theorem tz {W : World} (h : laidMetH Tryz.prog Rows.replyTurnedRow.laid W) : TZ W := by
  have h' : laidMet Tryz.prog Rows.replyTurnedRow.laid W := h
  have h2 : Lib.TabIs Tryz.prog W "math/bits.deBruijn64tab" .u8 [0, 1, 56, 2, 57, 49, 28, 3, 61, 58, 42, 50, 38, 29, 17, 4, 62, 47, 59, 36, 45, 43, 51, 22, 53, 39, 33, 30, 24, 18, 12, 5, 63, 55, 48, 27, 60, 41, 37, 16, 46, 35, 44, 21, 52, 32, 23, 11, 54, 26, 40, 15, 34, 20, 31, 10, 25, 14, 19, 9, 13, 8, 7, 6] := Lib.tabIs_of_head gTz (t := 171) (by kernel_rfl) Tryz.underlying171 Tryz.underlying5 (by kernel_rfl) (by kernel_rfl) h'.tail
  exact h2.cell gTz 15 (by decide)
theorem laid_met (os : Os) (args : Array Value) : laidMet Tryz.prog Rows.replyTurnedRow.laid ((World.laidAll Tryz.prog os Rows.replyTurnedRow.laid).forCall (fun _ _ => 0) ⟨#[], args, []⟩).memory :=
  laidMet_laidAll args (by kernel_rfl) (by kernel_rfl)
theorem contract (H : Type) (enc : TypeId × Value → H) (W : World) (base : Nat) (args : Array Value) (ds gs : List (DataW H)) (before : List MemPlace)
    (hval : ∀ (j : Nat) t v, Tryz.f6.params[j]? = some t → args[j]? = some v → Value.okWide Tryz.prog W .any base t v)
    (hW : DataW.Whole enc Tryz.prog Tryz.f6.params.toList Rows.replyTurnedSpec.vars false W args.toList ds gs before) (hL : laidMetH Tryz.prog Rows.replyTurnedRow.laid W) (hsz : (DataW.weightsEach Tryz.prog (Tryz.f6.params.toList ++ []) (ds ++ gs)).all (· ≤ reachBytes) = true) :
    Calls Tryz.prog 6 args W fun e W' => ∃ v, e = .returned v ∧ Rows.replyTurnedSpec.post enc Tryz.prog Tryz.f6 false true false false W args v W' := by
  have hW' := hW
  obtain ⟨p, q, hA, hV, -, -, -⟩ := hW
  rw [Tryz.params6] at hA hval hsz
  obtain ⟨v0, vs0, d0, ds0, p0, q0, hargs0, rfl, rfl, h0, r0⟩ := trodAll_cons hA
  obtain ⟨v1, vs1, d1, ds1, p1, q1, hargs1, rfl, rfl, h1, r1⟩ := trodAll_cons r0
  obtain ⟨v2, vs2, d2, ds2, p2, q2, hargs2, rfl, rfl, h2, r2⟩ := trodAll_cons r1
  obtain ⟨v3, vs3, d3, ds3, p3, q3, hargs3, rfl, rfl, h3, r3⟩ := trodAll_cons r2
  obtain ⟨v4, vs4, d4, ds4, p4, q4, hargs4, rfl, rfl, h4, r4⟩ := trodAll_cons r3
  obtain ⟨rfl, rfl, rfl⟩ := trodAll_nil r4
  obtain rfl : args = #[v0, v1, v2, v3, v4] := by cases args; simp_all
  obtain ⟨x, rfl, hx, hxm, hxs, hxp, hxw⟩ := open_rs (hval 0 _ _ rfl rfl) h0
  obtain ⟨b, rfl, rfl, rfl, wb⟩ := open_int Tryz.underlying3 (hval 1 _ _ rfl rfl) h1
  obtain ⟨cl, rfl, rfl, rfl⟩ := open_bool Tryz.underlying4 (hval 2 _ _ rfl rfl) h2
  obtain ⟨d, rfl, rfl, rfl, wd⟩ := open_int Tryz.underlying3 (hval 3 _ _ rfl rfl) h3
  obtain ⟨g, rfl, rfl, rfl, wg⟩ := open_int Tryz.underlying5 (hval 4 _ _ rfl rfl) h4
  have hz : ∀ m ∈ d0.weights Tryz.prog 38, m ≤ 140737488355328 := fun m hm => Nat.le_trans (by simpa using List.all_eq_true.1 hsz m (DataW.weights_mem_each (j := 0) rfl rfl m hm)) (by decide : reachBytes ≤ 140737488355328)
  obtain ⟨bb, rfl⟩ : ∃ bb : UInt8, g = (bb.toNat : Int) := ⟨UInt8.ofNat g.toNat, by
    simp only [Lit.wf, Bool.and_eq_true, decide_eq_true_eq] at wg
    have h0 : 0 ≤ g := wg.1
    have h1 : g ≤ 255 := wg.2
    rw [UInt8.toNat_ofNat']
    omega⟩
  refine (law_Turned x b cl d bb W hx (fun f hf => ⟨hz _ (hxw f hf).1, hz _ (hxw f hf).2⟩) hxm (tz hL) (tab hL)).mono fun e W' ⟨he, hb⟩ => ?_
  exact ⟨_, he, post_true kids0 full0 (by rw [Tryz.params6]; decide) hW' rfl rfl rfl rfl hb (by rfl) Tryz.underlying4⟩
theorem reads (os : Os) {H : Type} (enc : TypeId × Value → H) : ∃ places, DataW.whole enc Tryz.prog ((World.laidAll Tryz.prog os Rows.replyTurnedRow.laid).forCall (fun _ _ => 0) ⟨#[], #[.agg #[.int .i64 0, .slice none 0 0, .slice none 0 0, .slice none 0 0], .int .i64 0, .bool false, .int .i64 0, .int .u8 0], []⟩).memory Tryz.f6.params.toList Rows.replyTurnedSpec.vars false (#[.agg #[.int .i64 0, .slice none 0 0, .slice none 0 0, .slice none 0 0], .int .i64 0, .bool false, .int .i64 0, .int .u8 0] : Array Value).toList 8 = some ([.agg [.lit (.int .i64 0), .nil, .nil, .nil], .lit (.int .i64 0), .lit (.bool false), .lit (.int .i64 0), .lit (.int .u8 0)], [], places) :=
  ⟨[], by kernel_rfl⟩
theorem lifted (os : Os) (started : os.Started) (H : Type) (enc : TypeId × Value → H) (F : Stop.Interp) :
    ReturnsInHanded {} Tryz.checked os 6 .any ((OpenSpec.ofChange Rows.replyTurnedSpec).preRow enc Tryz.prog Tryz.f6 Rows.replyTurnedRow.domain false Rows.replyTurnedRow.laid) (((OpenSpec.ofChange Rows.replyTurnedSpec).at F).post enc Tryz.prog Tryz.f6 false true false false) := by
  obtain ⟨places, hx⟩ := reads os enc
  refine returnsInHanded_of_row (C := Tryz.checked) (s := OpenSpec.ofChange Rows.replyTurnedSpec) own0 started (by kernel_rfl) Tryz.func6
    (witness_row_atRef (enc := enc) (C := Tryz.checked) false (World.laidAll Tryz.prog os Rows.replyTurnedRow.laid) #[.agg #[.int .i64 0, .slice none 0 0, .slice none 0 0, .slice none 0 0], .int .i64 0, .bool false, .int .i64 0, .int .u8 0] (World.laidAll_os _ _ _) (by kernel_rfl) (by kernel_rfl) (by kernel_rfl)
      (OpenSpec.preRow_of_cond 8 hx (by kernel_rfl) (fun k hk => by cases hk) (by kernel_rfl) (laid_met os _))) ?_
  intro W base args ds gs before hval hW _ _ hsz hL _ _
  exact contract H enc W base args ds gs before hval hW hL hsz
theorem join1 : (Rows.replyTurnedRow.inPlace == Tryz.pinned.checked.prog.inPlace 6) = true := by kernel_rfl
theorem join2 : (Rows.replyTurnedRow.unfollowed == Tryz.pinned.checked.prog.unfollowed 6) = true := by kernel_rfl
theorem join3 : (Rows.replyTurnedRow.recurses == Tryz.pinned.checked.prog.recurses 6) = true := by kernel_rfl
theorem join4 : (Rows.replyTurnedRow.named == Tryz.pinned.checked.prog.varsNamed 6) = true := by kernel_rfl
theorem join5 : (laidOutB Tryz.pinned.checked.prog && mapsRowed Tryz.pinned.checked.prog) = true := by kernel_rfl
theorem join0 : joinedFacts Tryz.pinned.checked.prog 6 Tryz.f6 (OpenSpec.ofChange Rows.replyTurnedSpec).bare Rows.replyTurnedRow = true := by
  unfold joinedFacts
  rw [Bool.and_assoc (OpenClaim.wf _ _), join5, join1, join2, join3, join4]
  kernel_rfl
theorem said : Rows.ReplyTurnedSaid :=
  OpenClaim.holds_of_cond 6 Tryz.f6 rfl rfl rfl rfl rfl rfl rfl ⟨rfl, rfl, rfl, rfl, rfl⟩ rfl rfl rfl rfl rfl (by kernel_rfl) Tryz.func6 join0
    (of_decide_eq_true (by kernel_rfl)) (by unfold Func.isWrapper; first | (rw [if_pos (by decide +kernel)]; kernel_rfl) | (rw [if_neg (by decide +kernel)]; exact ⟨rfl, rfl⟩))
    (fun os started H enc _ F => by rw [OpenClaim.pre_eq_preRow]; exact lifted os started H enc F)
theorem stand0 : Tryz.prog.wantsStandIn 38 = false := by kernel_rfl
theorem stand1 : Tryz.prog.wantsStandIn 3 = false := by kernel_rfl
theorem stand2 : Tryz.prog.wantsStandIn 4 = false := by kernel_rfl
theorem stand3 : Tryz.prog.wantsStandIn 5 = false := by kernel_rfl
theorem plain (f : FuncId) (fn : Func) (hf : Tryz.pinned.checked.prog.funcNamed "usher/usherlaw18.ReplyTurned" = some f) (hfn : Tryz.pinned.checked.prog.funcs[f]? = some fn) :
    true = Tryz.pinned.checked.prog.looks [] ∧ ∀ (j : Nat) t, fn.params[j]? = some t → Tryz.pinned.checked.prog.wantsStandIn t = false := by
  obtain rfl : f = 6 := Option.some.inj ((show Tryz.prog.funcNamed "usher/usherlaw18.ReplyTurned" = some 6 by kernel_rfl).symm.trans hf) |>.symm
  obtain rfl : fn = Tryz.f6 := (Option.some.inj (Tryz.func6.symm.trans hfn)).symm
  refine ⟨by kernel_rfl, fun j t ht => ?_⟩
  rw [Tryz.params6] at ht
  have hm : t = 38 ∨ t = 3 ∨ t = 4 ∨ t = 3 ∨ t = 5 := by simpa using Array.mem_of_getElem? ht
  rcases hm with rfl | rfl | rfl | rfl | rfl
  · exact stand0
  · exact stand1
  · exact stand2
  · exact stand1
  · exact stand3
/-- THE CARD. -/
theorem card : Rows.ReplyTurnedCardSaid :=
  Claim7.holds_tied_plain_at .later [] _ _ _ _ said (fun _ h => by cases h) (by kernel_rfl) (fun _ h => by cases h) replyTurned_row_tie rfl ⟨rfl, rfl⟩ (by kernel_rfl) rfl plain (by kernel_rfl)
end Go.Proofs.YtmjekdnfkgalbaaGreatDoor.replyTurned
