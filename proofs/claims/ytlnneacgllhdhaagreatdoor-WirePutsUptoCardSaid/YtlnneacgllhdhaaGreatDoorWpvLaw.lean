/-
  WirePuts: what messages are as bytes, and which may be: for every message of bulk at most 1048576.
-/
import Derived.Test.YtlnneacgllhdhaaGreatDoorWpv43
import Derived.Test.YtlnneacgllhdhaaGreatDoorWpv44
namespace Go.Proofs.YtlnneacgllhdhaaGreatDoor
open Go.RowKit OctMath
set_option linter.unusedVariables false
set_option linter.unusedSimpArgs false
theorem checks_same (m : MG) (hO : Hid (MsgOk m.x)) (hE : m.es.length ≤ 1048576) (he : m.x.ents = m.es.map (·.x)) : ∃ c : Int, (∀ w, Calls Tryz.prog 11 #[.agg (mgCs m)] w fun e w' => e = .returned (.int .i64 c) ∧ Below w.heap.size w w') ∧
    ∀ w, Hid (MgIn w m) → Calls Tryz.prog 12 #[.agg (mgCs m)] w fun e w' => e = .returned (.int .i64 c) ∧ Below w.heap.size w w' := by
  have hP : (useOf m.x.kind ≠ 0 ∧ Bare (zM (useOf m.x.kind) m).x (zM (useOf m.x.kind) m).es.length) ↔ (useOf m.x.kind ≠ 0 ∧ (pM (useOf m.x.kind) m).x = m.x) := by
    rcases useOf_cases m.x.kind with ⟨h, -⟩ | ⟨h1, h2, -⟩
    · simp [h]
    · rw [part_bare h1 h2 he]
  by_cases h : useOf m.x.kind ≠ 0 ∧ Bare (zM (useOf m.x.kind) m).x (zM (useOf m.x.kind) m).es.length
  · refine ⟨0, fun w => (Check_any m w hO hE).mono fun e w' k => ?_, fun w hI => (rCheck_any m w hI hO).mono fun e w' k => ?_⟩
    · rcases k with ⟨hb, ⟨k, -⟩ | ⟨-, k⟩⟩
      · exact ⟨k, hb⟩
      · exact absurd h k
    · rcases k with ⟨hb, ⟨k, -⟩ | ⟨-, k⟩⟩
      · exact ⟨k, hb⟩
      · exact absurd (hP.1 h) k
  · refine ⟨2, fun w => (Check_any m w hO hE).mono fun e w' k => ?_, fun w hI => (rCheck_any m w hI hO).mono fun e w' k => ?_⟩
    · rcases k with ⟨hb, ⟨-, k⟩ | ⟨k, -⟩⟩
      · exact absurd k h
      · exact ⟨k, hb⟩
    · rcases k with ⟨hb, ⟨-, k⟩ | ⟨k, -⟩⟩
      · exact absurd (hP.2 k) h
      · exact ⟨k, hb⟩
set_option maxRecDepth 100000 in
set_option maxHeartbeats 16000000 in
theorem puts_any (m : MG) (w : World) (hI : Hid (MgIn w m)) (hO : Hid (MsgOk m.x)) (hE : m.es.length ≤ 1048576) (hg : Hid (GE w)) : Calls Tryz.prog 3 #[.agg (mgCs m)] w fun e w' => e = .returned (.bool true) ∧ Below w.heap.size w w' := by
  obtain ⟨c, hc1, hc2⟩ := checks_same m hO hE hI.out.eq
  have HC1 := Lh hc1
  have HC2 := Lh hc2
  have hby := pMsg_byt hO.out
  have HP1 := Lh (fun W k => Put_any m W k hO)
  have HP2 := Lh (fun W k => rput_msg m W k hO)
  obtain ⟨ys, ey⟩ : ∃ ys, pMsg m.x = ys := ⟨_, rfl⟩
  rw [ey] at HP1 HP2 hby
  have HBY := Lh hby
  have dd : decide (ys = ys) = true := decide_eq_true rfl
  have q1 : ((c : Int) == c) = true := by simp
  clear ey hc1 hc2 hby
  have X0 := Blk.new w 38 (mgCs m)
  have hb0 : Below w.heap.size w (w.alloc (.cells (mgCs m) 38)) := (Below.refl _ _).alloc (Nat.le_refl _) _
  obtain ⟨w0, ew0⟩ : ∃ w0, w.alloc (.cells (mgCs m) 38) = w0 := ⟨_, rfl⟩
  rw [ew0] at X0 hb0
  have HX := Lh X0
  have HB := Lh hb0
  clear X0 hb0
  go_enter Tryz.func3, Tryz.ntmps3
  go_upto_region 1 with (rw [ew0])
  clear ew0
  refine wp_region_late (S0 := fun _ => True) (S := fun w' => Blk w' w.heap.size 38 (mgCs m)) 15 16 (by kernel_rfl) rfl ⟨trivial, HX.out.drew⟩ (fun wd hwd hH => ?_)
  have K0 := Lh (show Below w.heap.size w wd from by rw [hwd]; exact HB.out.drew)
  have HL := Lh (show w.heap.size < wd.heap.size from by rw [hwd]; exact HX.out.lt)
  clear hwd
  refine wpAnyT_take 0 rfl (by kernel_rfl) (fun _ _ _ h => h) (yields_load_blk rfl 38 (.tmp 1) rfl w.heap.size 38 (mgCs m) _ rfl (fun w' hw' => hw') Tryz.underlying38 rfl sizeMsg) hH ?_
  try simp only [Act.put, pA9, pZ9, pS9]
  refine wpAnyT_take 2 rfl (by kernel_rfl) (fun _ _ _ h => h) (yields_load_blk rfl 38 (.tmp 1) rfl w.heap.size 38 (mgCs m) _ rfl (fun w' hw' => hw') Tryz.underlying38 rfl sizeMsg) hH ?_
  try simp only [Act.put, pA9, pZ9, pS9]
  refine wpAnyT_one 1 rfl (by kernel_rfl) (fun K hQ => ?_)
  go_simp
  go_at_call 9
  refine (HP1.out wd (Lh (hI.out.later K0.out))).mono ?_
  rintro e w1 ⟨A1, n1, c1, rfl, r1, hb, -, -⟩
  have K1 := Lh (K0.out.trans (hb.mono K0.out.size))
  have R1 := r1
  have Z1 := Lh (Nat.le_trans (Nat.le_refl _) hb.size)
  refine hQ.out _ _ ⟨trivial, hH.2.below hb (Nat.lt_of_lt_of_le HL.out (Nat.le_refl _))⟩ (fun hH2 => ?_)
  clear hQ K hH hb
  have hH := hH2
  clear hH2
  try simp only [Act.put, pA9, pZ9, pS9]
  refine wpAnyT_one 3 rfl (by kernel_rfl) (fun K hQ => ?_)
  go_simp
  go_at_call 10
  refine (HP2.out w1 (Lh (hI.out.later K1.out))).mono ?_
  rintro e w2 ⟨A2, c2, rfl, r2, hb⟩
  have K2 := Lh (K1.out.trans (hb.mono K1.out.size))
  have R12 := Lh (R1.out.later hb)
  have R2 := Lh r2
  have Z2 := Lh (Nat.le_trans Z1.out hb.size)
  refine hQ.out _ _ ⟨trivial, hH.2.below hb (Nat.lt_of_lt_of_le HL.out Z1.out)⟩ (fun hH2 => ?_)
  clear hQ K hH hb
  have hH := hH2
  clear hH2
  try simp only [Act.put, pA9, pZ9, pS9]
  refine wpAnyT_one 4 rfl (by kernel_rfl) (fun K hQ => ?_)
  go_simp
  go_at_call 8
  refine (same_any A1 A2 c1 c2 n1 ys.length ys ys w2 HBY.out HBY.out R12.out R2.out).mono ?_
  rintro e w2b ⟨rfl, hw2⟩
  subst hw2
  rw [dd]
  refine hQ.out _ _ ⟨trivial, hH.2⟩ (fun hH2 => ?_)
  clear hQ K hH
  have hH := hH2
  clear hH2
  try simp only [Act.put, pA9, pZ9, pS9]
  refine wpAnyT_stay 5 (v := ?_) rfl (by kernel_rfl) (fun _ _ _ h => h) (Or.inl ⟨by rfl, ?_⟩) ⟨hH.1, fun _ => hH.2⟩ ?_
  rotate_left
  · (intro wy hx; go_simp <;> with_reducible rfl)
  try simp only [Act.put, pA9, pZ9, pS9]
  refine wpAnyT_take 6 rfl (by kernel_rfl) (fun _ _ _ h => h) (yields_load_blk rfl 38 (.tmp 1) rfl w.heap.size 38 (mgCs m) _ rfl (fun w' hw' => hw') Tryz.underlying38 rfl sizeMsg) hH ?_
  try simp only [Act.put, pA9, pZ9, pS9]
  refine wpAnyT_take 8 rfl (by kernel_rfl) (fun _ _ _ h => h) (yields_load_blk rfl 38 (.tmp 1) rfl w.heap.size 38 (mgCs m) _ rfl (fun w' hw' => hw') Tryz.underlying38 rfl sizeMsg) hH ?_
  try simp only [Act.put, pA9, pZ9, pS9]
  refine wpAnyT_one 7 rfl (by kernel_rfl) (fun K hQ => ?_)
  rw [if_pos (by rfl)]
  go_simp
  go_at_call 11
  refine (HC1.out w2).mono ?_
  rintro e w3 ⟨rfl, hb⟩
  have K3 := Lh (K2.out.trans (hb.mono K2.out.size))
  have Z3 := Lh (Nat.le_trans Z2.out hb.size)
  refine hQ.out _ _ ⟨trivial, hH.2.below hb (Nat.lt_of_lt_of_le HL.out Z2.out)⟩ (fun hH2 => ?_)
  clear hQ K hH hb
  have hH := hH2
  clear hH2
  try simp only [Act.put, pA9, pZ9, pS9]
  refine wpAnyT_one 9 rfl (by kernel_rfl) (fun K hQ => ?_)
  rw [if_pos (by rfl)]
  go_simp
  go_at_call 12
  refine (HC2.out w3 (Lh (hI.out.later K3.out))).mono ?_
  rintro e w4 ⟨rfl, hb⟩
  have K4 := Lh (K3.out.trans (hb.mono K3.out.size))
  have Z4 := Lh (Nat.le_trans Z3.out hb.size)
  refine hQ.out _ _ ⟨trivial, hH.2.below hb (Nat.lt_of_lt_of_le HL.out Z3.out)⟩ (fun hH2 => ?_)
  clear hQ K hH hb
  have hH := hH2
  clear hH2
  try simp only [Act.put, pA9, pZ9, pS9]
  refine wpAnyT_stay 10 (v := ?_) rfl (by kernel_rfl) (fun _ _ _ h => h) (Or.inl ⟨by rfl, ?_⟩) ⟨hH.1, fun _ => hH.2⟩ ?_
  rotate_left
  · (intro wy hx; go_simp <;> with_reducible rfl)
  try simp only [Act.put, pA9, pZ9, pS9]
  refine wpAnyT_stay 11 (v := ?_) rfl (by kernel_rfl) (fun _ _ _ h => h) (Or.inl ⟨by rfl, ?_⟩) ⟨hH.1, fun _ => hH.2⟩ ?_
  rotate_left
  · (intro wy hx; go_simp <;> with_reducible rfl)
  try simp only [Act.put, pA9, pZ9, pS9]
  refine wpAnyT_stay 12 (v := ?_) rfl (by kernel_rfl) (fun _ _ _ h => h) (Or.inl ⟨by rfl, ?_⟩) ⟨hH.1, fun _ => hH.2⟩ ?_
  rotate_left
  · (intro wy hx; go_simp <;> with_reducible rfl)
  try simp only [Act.put, pA9, pZ9, pS9]
  refine wpAnyT_one 13 rfl (by kernel_rfl) (fun K hQ => ?_)
  rw [if_pos (by rfl)]
  go_simp
  go_at_call 13
  refine (heads_any w4 (Lh (hg.out.later K4.out))).mono ?_
  rintro e w5 ⟨rfl, hb⟩
  have K5 := Lh (K4.out.trans (hb.mono K4.out.size))
  refine hQ.out _ _ ⟨trivial, hH.2.below hb (Nat.lt_of_lt_of_le HL.out Z4.out)⟩ (fun hH2 => ?_)
  clear hQ K hH hb
  have hH := hH2
  clear hH2
  try simp only [Act.put, pA9, pZ9, pS9]
  refine wpAnyT_stay 14 (v := ?_) rfl (by kernel_rfl) (fun _ _ _ h => h) (Or.inl ⟨by rfl, ?_⟩) ⟨hH.1, fun _ => hH.2⟩ ?_
  rotate_left
  · (intro wy hx; go_simp <;> with_reducible rfl)
  try simp only [Act.put, pA9, pZ9, pS9]
  refine wpAnyT_last 15 rfl (by kernel_rfl) (by decide) (fun K hQ => ?_)
  go_simp
  refine hQ.out _ _ trivial (fun hH6 => ?_)
  clear hQ K
  try simp only [Act.put, pA9, pZ9, pS9]
  refine wpAnyT_done (by kernel_rfl) ?_ _
  go_wp2
  go_ret
  exact ⟨rfl, K5.out⟩
open Go.WideShapes Go.ChangeShapes in
set_option maxRecDepth 100000 in
theorem walk_WirePuts {H : Type} {enc : TypeId × Value → H} {base : Nat} (W : World) (hg : Hid (GE W))
    (v : Value) (d : DataW H) (p : List MemPlace) (h : DataW.Trod enc Tryz.prog W 0 (fun _ => true) true 38 v d p) (hok : Value.okWide Tryz.prog W .any base 38 v) (hb : Rows.uptoBulk d ≤ 1048576) :
    Calls Tryz.prog 3 #[v] W fun e w' => e = .returned (.bool true) ∧ Below W.heap.size W w' := by
  obtain ⟨cs, rfl, -⟩ := Go.WideShapes.okWide_struct Tryz.underlying38 hok
  obtain ⟨fuel, hf⟩ := h
  rw [show (Value.agg cs).cells.toList = cs.toList from rfl] at hf
  obtain ⟨m, e, hI, hO⟩ := open_msgb (x := (d, p)) hf hb
  obtain rfl : cs = mgCs m := by
    have := congrArg List.toArray e
    simpa using this
  exact puts_any m W (Lh hI) (Lh hO) (by have h1 := hO.ents.2; rw [hI.eq, List.length_map] at h1; exact h1) hg
namespace wirePuts
open Go.ChangeShapes Go.WideShapes Go.ChangeAt Go.RowKit
open Go.ChangeMaps (open_string shut_string)
set_option linter.unusedVariables false
theorem own : ownKnob Tryz.prog.godebug = none := by kernel_rfl
theorem laidOut : laidOutB Tryz.prog = true := by kernel_rfl
set_option maxRecDepth 100000 in
theorem contract (H : Type) (enc : TypeId × Value → H) (W : World) (base : Nat) (args : Array Value) (ds gs : List (DataW H)) (before : List MemPlace)
    (hval0 : ∀ (j : Nat) t v, Tryz.f3.params[j]? = some t → args[j]? = some v → Value.okWide Tryz.prog W .any base t v)
    (hW : DataW.Whole enc Tryz.prog Tryz.f3.params.toList Rows.wirePutsSpec.vars false W args.toList ds gs before) (hk : Rows.uptoSmall H (ds ++ gs) = true) (hL : laidMetH Tryz.prog laid0 W) :
    Calls Tryz.prog 3 args W fun e W' => ∃ v, e = .returned v ∧ Rows.wirePutsSpec.post enc Tryz.prog Tryz.f3 false true false false W args v W' := by
  have hval : ∀ (j : Nat) t v, Tryz.f3.params[j]? = some t → args[j]? = some v → Value.okWide Tryz.prog W .any base t v := hval0
  have hW' := hW
  obtain ⟨p, q, hA0, hV, rfl, hfz, hnd⟩ := hW
  have hA : DataW.TrodAll enc Tryz.prog W 0 (fun _ => true) true Tryz.f3.params.toList args.toList ds p := hA0
  rw [Tryz.params3] at hA hval
  obtain ⟨v0, vs0, d0, ds0, p0, q0, hargs, rfl, rfl, h0, r0⟩ := trodAll_cons hA
  obtain ⟨rfl, rfl, rfl⟩ := trodAll_nil r0
  obtain rfl : args = #[v0] := by cases args; simp_all
  obtain ⟨rfl, rfl⟩ := trodVars_none hV
  have k0 := h0
  have lt0 : ∀ x ∈ p0, x.block < W.heap.size := by obtain ⟨m, hm⟩ := k0; exact DataW.trod_lt m _ _ _ hm
  have hk1 := of_decide_eq_true hk
  simp only [List.cons_append, List.nil_append, Rows.uptoBulkAll] at hk1
  have b0 : Rows.uptoBulk d0 ≤ 1048576 := by omega
  clear hA0 hval0
  refine (walk_WirePuts W (Lh (ge_of_laid hL)) v0 d0 p0 h0 (hval 0 38 v0 rfl rfl) b0).mono fun e W' ⟨he, bel⟩ => ?_
  subst he
  exact ⟨_, rfl, _, _, _, [], _, [], hW', trodAll_mk1 (shut_bool Tryz.underlying4 _), (trodAll_cons_mk (Below.trod laidOut (by kernel_rfl) (of_decide_eq_true (by kernel_rfl)) k0 bel lt0) trodAll_mk0), rfl, bel.frame _, fun h => by cases h⟩
theorem reads (os : Os) {H : Type} (enc : TypeId × Value → H) : ∃ places, DataW.whole enc Tryz.prog ((laidWorld os).forCall (fun _ _ => 0) ⟨#[], #[.agg #[.int .i64 0, .int .i64 0, .int .i64 0, .int .u64 0, .int .u64 0, .int .u64 0, .int .u64 0, .int .u64 0, .bool false, .bool false, .slice none 0 0, .slice none 0 0, .slice none 0 0, .int .u64 0, .int .i64 0, .int .u64 0, .int .i64 0, .int .i64 0, .int .i64 0, .int .u32 0, .slice none 0 0, .int .u64 0, .int .u64 0, .int .i64 0, .string ⟨#[]⟩, .int .i64 0, .slice none 0 0]], []⟩).memory Tryz.f3.params.toList Rows.wirePutsSpec.vars false (#[.agg #[.int .i64 0, .int .i64 0, .int .i64 0, .int .u64 0, .int .u64 0, .int .u64 0, .int .u64 0, .int .u64 0, .bool false, .bool false, .slice none 0 0, .slice none 0 0, .slice none 0 0, .int .u64 0, .int .i64 0, .int .u64 0, .int .i64 0, .int .i64 0, .int .i64 0, .int .u32 0, .slice none 0 0, .int .u64 0, .int .u64 0, .int .i64 0, .string ⟨#[]⟩, .int .i64 0, .slice none 0 0]] : Array Value).toList 8 = some ([.agg [.lit (.int .i64 0), .lit (.int .i64 0), .lit (.int .i64 0), .lit (.int .u64 0), .lit (.int .u64 0), .lit (.int .u64 0), .lit (.int .u64 0), .lit (.int .u64 0), .lit (.bool false), .lit (.bool false), .nil, .agg [.nil, .nil], .agg [.agg [.lit (.int .u64 0), .lit (.int .i64 0), .lit (.int .u64 0)], .lit (.int .i64 0), .lit (.int .i64 0), .lit (.int .i64 0), .lit (.int .u32 0)], .nil, .lit (.int .u64 0), .lit (.int .u64 0), .lit (.int .i64 0), .lit (.string []), .lit (.int .i64 0), .nil]], [], places) :=
  ⟨[], by kernel_rfl⟩
set_option maxRecDepth 100000 in
theorem lifted (os : Os) (started : os.Started) (H : Type) (enc : TypeId × Value → H) (F : Stop.Interp) :
    ReturnsInHanded {} Tryz.checked os 3 .any ((Rows.OpenSpec.upto Rows.wirePutsSpec).preRow enc Tryz.prog Tryz.f3 Rows.wirePutsUptoRow.domain false Rows.wirePutsUptoRow.laid) (((Rows.OpenSpec.upto Rows.wirePutsSpec).at F).post enc Tryz.prog Tryz.f3 false true false false) := by
  obtain ⟨places, hx⟩ := reads os enc
  refine returnsInHanded_of_row (C := Tryz.checked) (s := Rows.OpenSpec.upto Rows.wirePutsSpec) own started (by kernel_rfl) Tryz.func3
    (witness_row_at (enc := enc) (C := Tryz.checked) false (laidWorld os) #[.agg #[.int .i64 0, .int .i64 0, .int .i64 0, .int .u64 0, .int .u64 0, .int .u64 0, .int .u64 0, .int .u64 0, .bool false, .bool false, .slice none 0 0, .slice none 0 0, .slice none 0 0, .int .u64 0, .int .i64 0, .int .u64 0, .int .i64 0, .int .i64 0, .int .i64 0, .int .u32 0, .slice none 0 0, .int .u64 0, .int .u64 0, .int .i64 0, .string ⟨#[]⟩, .int .i64 0, .slice none 0 0]] rfl (by kernel_rfl) (by kernel_rfl) (by kernel_rfl)
      (OpenSpec.preRow_of_cond 8 hx (by kernel_rfl) (fun k hk => by cases hk; kernel_rfl) (by kernel_rfl) (laid_met os #[.agg #[.int .i64 0, .int .i64 0, .int .i64 0, .int .u64 0, .int .u64 0, .int .u64 0, .int .u64 0, .int .u64 0, .bool false, .bool false, .slice none 0 0, .slice none 0 0, .slice none 0 0, .int .u64 0, .int .i64 0, .int .u64 0, .int .i64 0, .int .i64 0, .int .i64 0, .int .u32 0, .slice none 0 0, .int .u64 0, .int .u64 0, .int .i64 0, .string ⟨#[]⟩, .int .i64 0, .slice none 0 0]]))) ?_
  intro W base args ds gs before hval hW _ hcond _ hL _ _
  exact contract H enc W base args ds gs before hval hW (hcond _ rfl) hL
theorem over : Rows.WirePutsUptoSaid :=
  OpenClaim.holds_of_cond 3 Tryz.f3 rfl rfl rfl rfl rfl rfl rfl ⟨rfl, rfl, rfl, rfl, rfl⟩ rfl rfl rfl rfl rfl (by kernel_rfl) Tryz.func3 (by kernel_rfl)
    (of_decide_eq_true (by kernel_rfl)) (by unfold Func.isWrapper; first | (rw [if_pos (by decide +kernel)]; kernel_rfl) | (rw [if_neg (by decide +kernel)]; exact ⟨rfl, rfl⟩))
    (fun os started H enc _ F => by rw [OpenClaim.pre_eq_preRow]; exact lifted os started H enc F)
theorem plain (f : FuncId) (fn : Func) (hf : Tryz.pinned.checked.prog.funcNamed "buttress/buttresslaw06.WirePuts" = some f) (hfn : Tryz.pinned.checked.prog.funcs[f]? = some fn) :
    true = Tryz.pinned.checked.prog.looks [] ∧ ∀ (j : Nat) t, fn.params[j]? = some t → Tryz.pinned.checked.prog.wantsStandIn t = false := by
  obtain rfl : f = 3 := Option.some.inj ((show Tryz.prog.funcNamed "buttress/buttresslaw06.WirePuts" = some 3 by kernel_rfl).symm.trans hf) |>.symm
  obtain rfl : fn = Tryz.f3 := (Option.some.inj (Tryz.func3.symm.trans hfn)).symm
  refine ⟨by kernel_rfl, fun j t ht => ?_⟩
  rw [Tryz.params3] at ht
  have hm := Array.mem_of_getElem? ht
  have hall : (#[38] : Array TypeId).all (fun t => Tryz.prog.wantsStandIn t == false) = true := by kernel_rfl
  exact eq_of_beq (Array.all_eq_true_iff_forall_mem.1 hall t hm)
theorem proved : Rows.WirePutsUptoCardSaid :=
  Claim7.holds_tied_plain_at .later [] _ _ _ _ over (fun _ h => by cases h) (by kernel_rfl) (fun _ h => by cases h) wirePutsUpto_row_tie rfl ⟨rfl, rfl⟩ (by kernel_rfl) rfl plain (by kernel_rfl)
end wirePuts
end Go.Proofs.YtlnneacgllhdhaaGreatDoor
