/-
  WireFrames: what frames are, and what is read of any stream at any place: for every bytes, stream and place of bulk at most 1048576.
-/
import Derived.Test.YtlnneacgllhdhaaGreatDoorWcm07
import Derived.Test.YtlnneacgllhdhaaGreatDoorWcm23
namespace Go.Proofs.YtlnneacgllhdhaaGreatDoor
open Go.RowKit OctMath
set_option linter.unusedVariables false
set_option linter.unusedSimpArgs false
/-- What is read of a stream at a place, by whomever. -/
theorem frO_any {xs ys : List Nat} {a q : Int} {c : Nat} {w w' : World} {e : Ending} (hF : frAt xs a = (c, ys, q)) (h : RetFrO xs a w e w') :
    Below w.heap.size w w' ∧ ∃ A n k, e = .returned (.tuple #[.slice A n k, .int .i64 q, .int .i64 (c : Int)]) ∧ RdB w' A n k ys := by
  obtain ⟨hb, v, he, ho, hy⟩ := h
  rw [hF] at he ho hy
  obtain ⟨A, k, rfl, h1, h2⟩ := own_slice ho
  exact ⟨hb, A, _, k, he, Reads.of_own ho, hy, h1, h2⟩
theorem frm_any {xs : List Nat} {l : Nat} {w w' : World} {e : Ending} (hl : ¬ 4194304 < l) (hx : Byt (fr xs)) (h : RetFrm xs l w e w') :
    Below w.heap.size w w' ∧ ∃ A k, e = .returned (.tuple #[.slice A (l + 12) k, .int .i64 0]) ∧ RdB w' A (l + 12) k (fr xs) := by
  obtain ⟨hb, h⟩ := h
  rw [if_neg hl] at h
  obtain ⟨v, he, ho⟩ := h
  obtain ⟨A, k, rfl, h1, h2⟩ := own_slice ho
  exact ⟨hb, A, k, he, Reads.of_own ho, hx, h1, h2⟩
theorem all_in {xs : List Nat} {w w' : World} {e : Ending} {ks : List (List Nat)} {q : Nat} (hK : AllR xs ks q) (h : RetAll xs w e w') :
    Below w.heap.size w w' ∧ ∃ A k, e = .returned (.tuple #[.slice A ks.length k, .int .i64 (q : Int)]) ∧ InM w' A k ks := by
  obtain ⟨v, ls, p, he, hA, hm⟩ := h
  obtain ⟨rfl, rfl⟩ := hA.uniq hK
  obtain ⟨A, k, rfl, hi⟩ := hm.own.slice
  exact ⟨hm.bel, A, k, he, hi⟩
/-- A stream has all its frames. -/
theorem allR_ex (xs : List Nat) : ∃ ls p, AllR xs ls p := by
  suffices h : ∀ n, (∀ j, j < n → goodN xs j) ∨ ∃ ls p, AllR xs ls p by
    rcases h (xs.length + 1) with h | h
    · have := (stepN_bound _ h); omega
    · exact h
  intro n
  induction n with
  | zero => exact .inl fun j h => absurd h (by omega)
  | succ n ih =>
    rcases ih with h | h
    · by_cases hg : goodN xs n
      · refine .inl fun j hj => ?_
        rcases Nat.lt_or_eq_of_le (Nat.lt_succ_iff.1 hj) with h2 | h2
        · exact h j h2
        · rw [h2]; exact hg
      · exact .inr ⟨_, _, n, h, hg, rfl⟩
    · exact .inr h
set_option maxRecDepth 100000 in
set_option maxHeartbeats 8000000 in
theorem frames_any (A : Option Addr) (n ca : Nat) (xs : List Nat) (B : Option Addr) (m cb : Nat) (ss : List Nat) (a : Int) (W : World) (hx : Hid (RdB W A n ca xs)) (hs : Hid (RdB W B m cb ss)) (hg : Hid (GE W)) (hn : n ≤ 1048576) (hm : m ≤ 1048576) :
    Calls Tryz.prog 6 #[.slice A n ca, .slice B m cb, .int .i64 a] W fun e w' => e = .returned (.bool true) ∧ Below W.heap.size W w' := by
  obtain ⟨ks, q, hK⟩ := allR_ex ss
  obtain ⟨c, ys, r, hF⟩ : ∃ c ys r, frAt ss a = (c, ys, r) := ⟨_, _, _, rfl⟩
  have hfb : Byt (fr xs) := fr_byt hx.out.2.1 (by rw [hx.out.len]; omega)
  have H1 := Lib.hid (fun w h => (Frame_any A n ca xs w h).mono fun e w' k => frm_any (by omega) hfb k)
  have H2 := Lib.hid (fun w h => (rFrame_any A n ca xs w h).mono fun e w' k => frm_any (by omega) hfb k)
  have H3 := Lib.hid (fun w h h2 => (Next_own B m cb ss a w h h2 (by omega)).mono fun e w' k => frO_any hF k)
  have H4 := Lib.hid (fun w h => (rNext_own B m cb ss a w h (by omega)).mono fun e w' k => frO_any hF k)
  have H5 := Lib.hid (fun w h h2 => (All_any B m cb ss w h h2 (by omega)).mono fun e w' k => all_in hK k)
  have H6 := Lib.hid (fun w h => (rAll_any B m cb ss w h (by omega)).mono fun e w' k => all_in hK k)
  have q1 : ((q : Int) == q) = true := by simp
  have q2 : ((r : Int) == r) = true := by simp
  have q3 : ((c : Int) == c) = true := by simp
  have dd : decide (fr xs = fr xs) = true := decide_eq_true rfl
  have dy : decide (ys = ys) = true := decide_eq_true rfl
  have dk : decide (ks = ks) = true := decide_eq_true rfl
  have tk := True.intro
  clear hK hF hfb
  go_enter Tryz.func6, Tryz.ntmps6
  go_wp2_with (first
    | (go_at_call 14; refine (H1.out _ hx).mono ?_; rintro e w1 ⟨hb, A1, k1, rfl, r1⟩
       have K1 := Lib.hid hb
       have X1 := Lib.hid r1
       clear hb r1)
    | (go_at_call 17; refine (H2.out _ (Lib.hid (hx.out.later K1.out))).mono ?_; rintro e w2 ⟨hb, A2, k2, rfl, r1⟩
       have K2 := Lib.hid (K1.out.trans (hb.mono K1.out.size))
       have X2 := Lib.hid (X1.out.later hb)
       have Y2 := Lib.hid r1
       clear hb r1 K1 X1)
    | (go_at_call 15; refine (H3.out _ (Lib.hid (hs.out.later K2.out)) (Lib.hid (hg.out.later K2.out))).mono ?_; rintro e w3 ⟨hb, A3, n3, k3, rfl, r1⟩
       have K3 := Lib.hid (K2.out.trans (hb.mono K2.out.size))
       have X3 := Lib.hid (X2.out.later hb)
       have Y3 := Lib.hid (Y2.out.later hb)
       have Z3 := Lib.hid r1
       clear hb r1 K2 X2 Y2)
    | (go_at_call 18; refine (H4.out _ (Lib.hid (hs.out.later K3.out))).mono ?_; rintro e w4 ⟨hb, A4, n4, k4, rfl, r1⟩
       have K4 := Lib.hid (K3.out.trans (hb.mono K3.out.size))
       have X4 := Lib.hid (X3.out.later hb)
       have Y4 := Lib.hid (Y3.out.later hb)
       have Z4 := Lib.hid (Z3.out.later hb)
       have U4 := Lib.hid r1
       clear hb r1 K3 X3 Y3 Z3)
    | (go_at_call 16; refine (H5.out _ (Lib.hid (hs.out.later K4.out)) (Lib.hid (hg.out.later K4.out))).mono ?_; rintro e w5 ⟨hb, A5, k5, rfl, r1⟩
       have K5 := Lib.hid (K4.out.trans (hb.mono K4.out.size))
       have X5 := Lib.hid (X4.out.later hb)
       have Y5 := Lib.hid (Y4.out.later hb)
       have Z5 := Lib.hid (Z4.out.later hb)
       have U5 := Lib.hid (U4.out.later hb)
       have V5 := Lib.hid r1
       clear hb r1 K4 X4 Y4 Z4 U4)
    | (go_at_call 19; refine (H6.out _ (Lib.hid (hs.out.later K5.out))).mono ?_; rintro e w6 ⟨hb, A6, k6, rfl, r1⟩
       have K6 := Lib.hid (K5.out.trans (hb.mono K5.out.size))
       have X6 := Lib.hid (X5.out.later hb)
       have Y6 := Lib.hid (Y5.out.later hb)
       have Z6 := Lib.hid (Z5.out.later hb)
       have U6 := Lib.hid (U5.out.later hb)
       have V6 := Lib.hid (V5.out.later hb)
       have V7 := Lib.hid r1
       clear hb r1 K5 X5 Y5 Z5 U5 V5)
    | (have _t := tk; go_at_call 8; refine (same_any A1 A2 k1 k2 (n + 12) (n + 12) (fr xs) (fr xs) _ X6.out.2.1 Y6.out.2.1 X6.out.1 Y6.out.1).mono ?_; rintro e w7 ⟨rfl, rfl⟩; clear tk _t)
    | (go_at_call 8; refine (same_any A3 A4 k3 k4 n3 n4 ys ys _ Z6.out.2.1 U6.out.2.1 Z6.out.1 U6.out.1).mono ?_; rintro e w8 ⟨rfl, rfl⟩)
    | (go_at_call 20; refine (samem_any A5 A6 k5 k6 ks.length ks.length ks ks _ V6 V7 rfl rfl).mono ?_; rintro e w9 ⟨rfl, d9, rfl⟩; have K9 := Lib.hid (bel_drewN K6.out d9))
    | (go_at_call 13; refine (heads_any _ (Lib.hid (hg.out.later K9.out))).mono ?_; rintro e w10 ⟨rfl, he⟩; have HE := Lib.hid (K9.out.trans (he.mono K9.out.size)); clear he))
  go_ret
  exact ⟨rfl, HE.out⟩
theorem walk_WireFrames (W : World) (hg : Hid (GE W)) (A : Option Addr) (n cap : Nat) (z : List Int) (h : Ints .u8 W A n cap z) (bn : n ≤ 1048576) (B : Option Addr) (m cb : Nat) (y : List Int) (h' : Ints .u8 W B m cb y) (bm : m ≤ 1048576) (a : Int) (wa : (Lit.int .i64 a).wf = true) :
    Calls Tryz.prog 6 #[.slice A n cap, .slice B m cb, .int .i64 a] W fun e w' => e = .returned (.bool true) ∧ Below W.heap.size W w' := by
  obtain ⟨xs, hx, hl, hr, h1, h2⟩ := h.bytes
  obtain ⟨ss, hx', hl', hr', h1', h2'⟩ := h'.bytes
  exact frames_any A n cap xs B m cb ss a W (Lib.hid ⟨hr, hx, h1, h2⟩) (Lib.hid ⟨hr', hx', h1', h2'⟩) hg bn bm
namespace wireFrames
open Go.ChangeShapes Go.WideShapes Go.ChangeAt Go.RowKit
open Go.ChangeMaps (open_string shut_string)
set_option linter.unusedVariables false
theorem own : ownKnob Tryz.prog.godebug = none := by kernel_rfl
theorem laidOut : laidOutB Tryz.prog = true := by kernel_rfl
set_option maxRecDepth 100000 in
theorem contract (H : Type) (enc : TypeId × Value → H) (W : World) (base : Nat) (args : Array Value) (ds gs : List (DataW H)) (before : List MemPlace)
    (hval0 : ∀ (j : Nat) t v, Tryz.f6.params[j]? = some t → args[j]? = some v → Value.okWide Tryz.prog W .any base t v)
    (hW : DataW.Whole enc Tryz.prog Tryz.f6.params.toList Rows.wireFramesSpec.vars false W args.toList ds gs before) (hk : Rows.uptoSmall H (ds ++ gs) = true) (hL : laidMetH Tryz.prog laid0 W) :
    Calls Tryz.prog 6 args W fun e W' => ∃ v, e = .returned v ∧ Rows.wireFramesSpec.post enc Tryz.prog Tryz.f6 false true false false W args v W' := by
  have hval : ∀ (j : Nat) t v, Tryz.f6.params[j]? = some t → args[j]? = some v → Value.okWide Tryz.prog W .any base t v := hval0
  have hW' := hW
  obtain ⟨p, q, hA0, hV, rfl, hfz, hnd⟩ := hW
  have hA : DataW.TrodAll enc Tryz.prog W 0 (fun _ => true) true Tryz.f6.params.toList args.toList ds p := hA0
  rw [Tryz.params6] at hA hval
  obtain ⟨v0, vs0, d0, ds0, p0, q0, hargs, rfl, rfl, h0, r0⟩ := trodAll_cons hA
  obtain ⟨v1, vs1, d1, ds1, p1, q1, rfl, rfl, rfl, h1, r1⟩ := trodAll_cons r0
  obtain ⟨v2, vs2, d2, ds2, p2, q2, rfl, rfl, rfl, h2, r2⟩ := trodAll_cons r1
  obtain ⟨rfl, rfl, rfl⟩ := trodAll_nil r2
  obtain rfl : args = #[v0, v1, v2] := by cases args; simp_all
  obtain ⟨rfl, rfl⟩ := trodVars_none hV
  have k0 := h0
  have lt0 : ∀ x ∈ p0, x.block < W.heap.size := by obtain ⟨m, hm⟩ := k0; exact DataW.trod_lt m _ _ _ hm
  have k1 := h1
  have lt1 : ∀ x ∈ p1, x.block < W.heap.size := by obtain ⟨m, hm⟩ := k1; exact DataW.trod_lt m _ _ _ hm
  have k2 := h2
  have lt2 : ∀ x ∈ p2, x.block < W.heap.size := by obtain ⟨m, hm⟩ := k2; exact DataW.trod_lt m _ _ _ hm
  have hk1 := of_decide_eq_true hk
  simp only [List.cons_append, List.nil_append, Rows.uptoBulkAll] at hk1
  obtain ⟨A0, len0, cap0, rfl⟩ := okWide_slice Tryz.underlying33 (hval 0 33 v0 rfl rfl)
  obtain ⟨z0, w0⟩ := open_in_ints Tryz.underlying33 Tryz.underlying5 (by kernel_rfl) h0
  have b0 := ints_small Tryz.underlying33 Tryz.underlying5 (by kernel_rfl) h0 (by omega)
  obtain ⟨A1, len1, cap1, rfl⟩ := okWide_slice Tryz.underlying33 (hval 1 33 v1 rfl rfl)
  obtain ⟨z1, w1⟩ := open_in_ints Tryz.underlying33 Tryz.underlying5 (by kernel_rfl) h1
  have b1 := ints_small Tryz.underlying33 Tryz.underlying5 (by kernel_rfl) h1 (by omega)
  obtain ⟨a2, rfl, rfl, rfl, w2⟩ := open_int Tryz.underlying3 (hval 2 3 v2 rfl rfl) h2
  clear hA0 hval0
  refine (walk_WireFrames W (Lib.hid (ge_of_laid hL)) A0 len0 cap0 z0 w0 b0 A1 len1 cap1 z1 w1 b1 a2 w2).mono fun e W' ⟨he, bel⟩ => ?_
  subst he
  exact ⟨_, rfl, _, _, _, [], _, [], hW', trodAll_mk1 (shut_bool Tryz.underlying4 _), (trodAll_cons_mk (Below.trod laidOut (by kernel_rfl) (of_decide_eq_true (by kernel_rfl)) k0 bel lt0) (trodAll_cons_mk (Below.trod laidOut (by kernel_rfl) (of_decide_eq_true (by kernel_rfl)) k1 bel lt1) (trodAll_cons_mk (Below.trod laidOut (by kernel_rfl) (of_decide_eq_true (by kernel_rfl)) k2 bel lt2) trodAll_mk0))), rfl, bel.frame _, fun h => by cases h⟩
theorem reads (os : Os) {H : Type} (enc : TypeId × Value → H) : ∃ places, DataW.whole enc Tryz.prog ((laidWorld os).forCall (fun _ _ => 0) ⟨#[], #[.slice none 0 0, .slice none 0 0, .int .i64 0], []⟩).memory Tryz.f6.params.toList Rows.wireFramesSpec.vars false (#[.slice none 0 0, .slice none 0 0, .int .i64 0] : Array Value).toList 8 = some ([.nil, .nil, .lit (.int .i64 0)], [], places) :=
  ⟨[], by kernel_rfl⟩
set_option maxRecDepth 100000 in
theorem lifted (os : Os) (started : os.Started) (H : Type) (enc : TypeId × Value → H) (F : Stop.Interp) :
    ReturnsInHanded {} Tryz.checked os 6 .any ((Rows.OpenSpec.upto Rows.wireFramesSpec).preRow enc Tryz.prog Tryz.f6 Rows.wireFramesUptoRow.domain false Rows.wireFramesUptoRow.laid) (((Rows.OpenSpec.upto Rows.wireFramesSpec).at F).post enc Tryz.prog Tryz.f6 false true false false) := by
  obtain ⟨places, hx⟩ := reads os enc
  refine returnsInHanded_of_row (C := Tryz.checked) (s := Rows.OpenSpec.upto Rows.wireFramesSpec) own started (by kernel_rfl) Tryz.func6
    (witness_row_at (enc := enc) (C := Tryz.checked) false (laidWorld os) #[.slice none 0 0, .slice none 0 0, .int .i64 0] rfl (by kernel_rfl) (by kernel_rfl) (by kernel_rfl)
      (OpenSpec.preRow_of_cond 8 hx (by kernel_rfl) (fun k hk => by cases hk; kernel_rfl) (by kernel_rfl) (laid_met os #[.slice none 0 0, .slice none 0 0, .int .i64 0]))) ?_
  intro W base args ds gs before hval hW _ hcond _ hL _ _
  exact contract H enc W base args ds gs before hval hW (hcond _ rfl) hL
theorem over : Rows.WireFramesUptoSaid :=
  OpenClaim.holds_of_cond 6 Tryz.f6 rfl rfl rfl rfl rfl rfl rfl ⟨rfl, rfl, rfl, rfl, rfl⟩ rfl rfl rfl rfl rfl (by kernel_rfl) Tryz.func6 (by kernel_rfl)
    (of_decide_eq_true (by kernel_rfl)) (by unfold Func.isWrapper; first | (rw [if_pos (by decide +kernel)]; kernel_rfl) | (rw [if_neg (by decide +kernel)]; exact ⟨rfl, rfl⟩))
    (fun os started H enc _ F => by rw [OpenClaim.pre_eq_preRow]; exact lifted os started H enc F)
theorem plain (f : FuncId) (fn : Func) (hf : Tryz.pinned.checked.prog.funcNamed "buttress/buttresslaw06.WireFrames" = some f) (hfn : Tryz.pinned.checked.prog.funcs[f]? = some fn) :
    true = Tryz.pinned.checked.prog.looks [] ∧ ∀ (j : Nat) t, fn.params[j]? = some t → Tryz.pinned.checked.prog.wantsStandIn t = false := by
  obtain rfl : f = 6 := Option.some.inj ((show Tryz.prog.funcNamed "buttress/buttresslaw06.WireFrames" = some 6 by kernel_rfl).symm.trans hf) |>.symm
  obtain rfl : fn = Tryz.f6 := (Option.some.inj (Tryz.func6.symm.trans hfn)).symm
  refine ⟨by kernel_rfl, fun j t ht => ?_⟩
  rw [Tryz.params6] at ht
  have hm := Array.mem_of_getElem? ht
  have hall : (#[33, 33, 3] : Array TypeId).all (fun t => Tryz.prog.wantsStandIn t == false) = true := by kernel_rfl
  exact eq_of_beq (Array.all_eq_true_iff_forall_mem.1 hall t hm)
/-- THE STATEMENT: the card. -/
theorem proved : Rows.WireFramesUptoCardSaid :=
  Claim7.holds_tied_plain_at .later [] _ _ _ _ over (fun _ h => by cases h) (by kernel_rfl) (fun _ h => by cases h) wireFramesUpto_row_tie rfl ⟨rfl, rfl⟩ (by kernel_rfl) rfl plain (by kernel_rfl)
end wireFrames
end Go.Proofs.YtlnneacgllhdhaaGreatDoor
