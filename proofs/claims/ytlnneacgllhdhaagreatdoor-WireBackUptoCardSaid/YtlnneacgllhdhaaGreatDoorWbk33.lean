/-
  WireBack: the law's walk. (printed by gen_wirback.py). (joined out of WirBk1 by shake.py)
-/
import Derived.Lib.SmallJoins
import Derived.Great.BuildSlice
import Derived.Test.YtlnneacgllhdhaaGreatDoorWbk27
import Derived.Test.YtlnneacgllhdhaaGreatDoorWbk32
section
namespace Go.Proofs.YtlnneacgllhdhaaGreatDoor
open Go.RowKit OctMath
set_option linter.unusedVariables false
set_option linter.unusedSimpArgs false
def bsL (ms : List MG) : List (List Nat) := ms.map fun m => pMsg m.x
def unf : List Nat := [117, 110, 102, 105, 110, 105, 115, 104, 101, 100]
def unfZ : List Int := [117, 110, 102, 105, 110, 105, 115, 104, 101, 100]
theorem unf_byt : Byt unf := by unfold Byt unf; decide
theorem unf_len : (fr unf).length = 22 := by rw [fr_len]; rfl
theorem bsL_len (ms : List MG) : (bsL ms).length = ms.length := by unfold bsL; simp
theorem frs_le6 (bs : List (List Nat)) (h : ∀ b ∈ bs, b.length ≤ 1000000) : (frs bs).length ≤ bs.length * 1000012 := by
  induction bs with
  | nil => simp [frs]
  | cons b l ih =>
    have h1 := ih fun x hx => h x (List.mem_cons_of_mem _ hx)
    have h2 := h b List.mem_cons_self
    rw [frs_cons, List.length_append, fr_len, List.length_cons, Nat.succ_mul]
    omega
/-- Frames that are put one behind the other. -/
structure BSt (W : World) (vs : Value) (bs : List (List Nat)) (wr : World) : Prop where
  s : wr.ownsRow W.heap.size 5 1 vs (frs bs).length ((frs bs).map bv)
  bel : Below W.heap.size W wr
  len : ∀ b ∈ bs, b.length ≤ 1000000
theorem BSt.nil (W : World) : BSt W (.slice none 0 0) [] W := ⟨⟨rfl, .inl ⟨rfl, rfl⟩⟩, Below.refl _ _, fun b h => by cases h⟩
theorem BSt.below {W wr w' : World} {vs : Value} {bs : List (List Nat)} (h : BSt W vs bs wr) (hb : Below wr.heap.size wr w') : BSt W vs bs w' := ⟨own_below h.s hb, h.bel.trans (hb.mono h.bel.size), h.len⟩
theorem BSt.total {W wr : World} {vs : Value} {bs : List (List Nat)} (h : BSt W vs bs wr) (hn : bs.length ≤ 1048576) : (frs bs).length ≤ 1048588582912 := by
  have h1 := frs_le6 bs h.len
  have h2 : bs.length * 1000012 ≤ 1048576 * 1000012 := Nat.mul_le_mul_right _ hn
  omega
/-- A message of a row of messages. -/
theorem mg_row {w : World} {A : Option Addr} {n : Nat} {ms : List MG} (h : Reads w w.heap.size 27 A n (ms.flatMap fun m => (mgCs m).toList)) {i : Nat} (hi : i < ms.length) (hn : ms.length = n) :
    ∃ ad, A = some ad ∧ (ad.add (i * 27)).block < w.heap.size ∧ ∀ j v, (mgCs ms[i]).toList[j]? = some v → w.cell? ((ad.add (i * 27)).add j) = some v := by
  obtain ⟨ad, e, hb, hc⟩ := h.2 (by omega)
  refine ⟨ad, e, by rw [block_of_add]; exact hb, fun j v hv => ?_⟩
  have hj : j < 27 := (List.getElem?_eq_some_iff.1 hv).1
  rw [Go.Deep.add_add]
  refine hc _ _ ?_
  rw [flat_get (size := 27) (cells := fun m => (mgCs m).toList) (fun _ => rfl) ms i hi j hj]
  exact hv
theorem frm_own6 {xs : List Nat} {l : Nat} {w w' : World} {e : Ending} (hl : ¬ 4194304 < l) (h : RetFrm xs l w e w') :
    Below w.heap.size w w' ∧ ∃ A k, e = .returned (.tuple #[.slice A (l + 12) k, .int .i64 0]) ∧ w'.ownsRow w.heap.size 5 1 (.slice A (l + 12) k) (l + 12) ((fr xs).map bv) := by
  obtain ⟨hb, h⟩ := h
  rw [if_neg hl] at h
  obtain ⟨v, he, ho⟩ := h
  obtain ⟨A, k, rfl, h1, h2⟩ := own_slice ho
  exact ⟨hb, A, k, he, ho⟩
theorem all_in6 {xs : List Nat} {w w' : World} {e : Ending} {ks : List (List Nat)} {q : Nat} (hK : AllR xs ks q) (h : RetAll xs w e w') :
    Below w.heap.size w w' ∧ ∃ A k, e = .returned (.tuple #[.slice A ks.length k, .int .i64 (q : Int)]) ∧ InM w' A k ks := by
  obtain ⟨v, ls, p, he, hA, hm⟩ := h
  obtain ⟨rfl, rfl⟩ := hA.uniq hK
  obtain ⟨A, k, rfl, hi⟩ := hm.own.slice
  exact ⟨hm.bel, A, k, he, hi⟩
theorem inM_row6 {w : World} {A : Option Addr} {cap : Nat} {ls : List (List Nat)} (h : InM w A cap ls) {i : Nat} (hi : i < ls.length) : ∃ ad B c, A = some ad ∧ w.cell? (ad.add i) = some (.slice B ls[i].length c) ∧ RdB w B ls[i].length c ls[i] := by
  obtain ⟨ad, B, c, e, hc, h1, h2, h3, h4⟩ := h.row hi
  have e2 : ls.getD i [] = ls[i] := by rw [List.getD_eq_getElem?_getD, List.getElem?_eq_getElem hi]; rfl
  rw [e2] at hc h1 h3 h4
  exact ⟨ad, B, c, e, hc, h3, h4, h1, h2⟩
theorem wpl_conv {P : Program} {ops : Array Oper} {rest : List Oper} {op : Oper} {a : Act} {w : World} {Q : Exit → Act → World → Prop} (hgd : op.guard = none) (s d : TypeId) (x : Operand) (ho : op.op = .convert s d x) (v v' : Value) (w' : World) (hx : a.eval x = v)
    (hr : (convert s d v).run P w = .ok v' w') (h : wpList P ops Q rest (a.put op.dst v') w') : wpList P ops Q (op :: rest) a w := by
  refine wpList_plain hgd fun K hK => ?_
  unfold Oper.wp
  simp [execOp, ho, hx, hr, Result.andThen]
  exact hK _ _ h
theorem add_at (g j : Nat) : (⟨g, 0, none⟩ : Addr).add j = ⟨g, j, none⟩ := by
  unfold Addr.add
  split
  · subst_vars; rfl
  · simp
theorem reads_mark (w : World) (t : TypeId) (xs : List Nat) (fr : Nat × Nat) (n : Nat) (hn : xs.length = n) : Reads (w.alloc (.cells (xs.map bv).toArray t fr)) (w.heap.size + 1) 1 (some ⟨w.heap.size, 0, none⟩) n (xs.map bv) := by
  refine ⟨by rw [List.length_map]; omega, fun _ => ⟨_, rfl, Nat.lt_succ_self _, fun j u hu => ?_⟩⟩
  rw [add_at, World.cell?_alloc_mark]
  simpa using hu
/-- What was put is read again. -/
theorem get_back {x : MsgT} (hx : MsgOk x) {n : Nat} {w w' : World} {e : Ending} (hn : (pMsg x).length = n) (h : RetGet (pMsg x) n w e w') : Below w.heap.size w w' ∧ ∃ m : MG, m.x = x ∧ e = .returned (.tuple #[.agg (mgCs m), .int .i64 0]) ∧ MgIn w' m := by
  obtain ⟨hb, h⟩ := h
  have hr : rMsg (pMsg x) 0 = some (x, n) := by
    have := (got_msg hx).rd [] []
    rw [List.append_nil, List.nil_append, hn] at this
    exact this
  rw [hr] at h
  simp only [if_pos] at h
  obtain ⟨m, h1, h2, h3, -⟩ := h
  exact ⟨hb, m, h1, h2, h3⟩
set_option maxRecDepth 100000 in
set_option maxHeartbeats 16000000 in
theorem back_any (A : Option Addr) (ca N : Nat) (ms : List MG) (a : Int) (W : World) (hR : Hid (Reads W W.heap.size 27 A N (ms.flatMap fun m => (mgCs m).toList))) (hN : ms.length = N) (hN1 : N ≤ 1048576) (hM : Hid (∀ m ∈ ms, MgIn W m ∧ MsgOk m.x)) (hg : Hid (GE W)) (hca : N ≤ ca) (hcm : ca ≤ maxLen) (ha : -9223372036854775808 ≤ a ∧ a ≤ 9223372036854775807) :
    Calls Tryz.prog 7 #[.slice A N ca, .int .i64 a] W fun e w' => e = .returned (.bool true) ∧ Below W.heap.size W w' := by
  have HN := Lib.hid hN
  unfold maxLen at hcm
  clear hN
  go_enter Tryz.func7, Tryz.ntmps7
  go_wp2_with fail
  go_loopw [5, 6, 7, 8, 9, 10] (fun vs vi _ _ _ _ wr => ∃ i : Nat, i ≤ N ∧ vi = .int .i64 i ∧ Hid (BSt W vs (bsL (ms.take i)) wr)) (fun _ vi _ _ _ _ _ => N - (intOf vi).toNat)
  case atStart => exact ⟨0, by omega, rfl, Lib.hid (BSt.nil W)⟩
  case round =>
    obtain ⟨i, hi, rfl, hst⟩ := hrel
    obtain ⟨AS, cs, rfl, hs1, hs2⟩ := own_slice hst.out.s
    have hGw := Lib.hid (hg.out.later hst.out.bel)
    by_cases hlt : i < N
    · as_aux_lemma =>
        have hil : i < ms.length := by rw [HN.out]; exact hlt
        obtain ⟨ad, rfl, hadb, hrow⟩ := mg_row (hR.out.later hst.out.bel) hil HN.out
        have hmi := hM.out _ (List.getElem_mem hil)
        have htk : ms.take (i + 1) = ms.take i ++ [ms[i]] := List.take_succ_eq_append_getElem hil
        have hlen : (ms.take i).length = i := by rw [List.length_take]; omega
        obtain ⟨m, em⟩ : ∃ m, ms[i] = m := ⟨_, rfl⟩
        rw [em] at hrow hmi htk
        have HI := Lib.hid (hmi.1.later hst.out.bel)
        have HO := Lib.hid hmi.2
        have hc26 : wr.cell? ⟨(ad.add (i * 27)).block, (ad.add (i * 27)).off + 26, none⟩ = some (.slice m.An m.x.names.length m.cn) := hrow 26 (.slice m.An m.x.names.length m.cn) rfl
        have hc10 : wr.cell? ⟨(ad.add (i * 27)).block, (ad.add (i * 27)).off + 10, none⟩ = some (.slice m.Ae m.es.length m.ce) := hrow 10 (.slice m.Ae m.es.length m.ce) rfl
        have HPut := Lib.hid (Put_any m wr HI HO)
        obtain ⟨c, ec⟩ : ∃ c, mgCs m = c := ⟨_, rfl⟩
        have hcl : c.toList.length = 27 := by rw [← ec]; rfl
        rw [ec] at HPut hrow
        have HCL := Lib.hid hcl
        have HROW := Lib.hid hrow
        have HNM := Lib.hid HI.out.names
        obtain ⟨nl, enl⟩ : ∃ nl, m.x.names = nl := ⟨_, rfl⟩
        obtain ⟨An, eAn⟩ : ∃ An, m.An = An := ⟨_, rfl⟩
        obtain ⟨nn, enn⟩ : ∃ nn, nl.length = nn := ⟨_, rfl⟩
        obtain ⟨ne, ene⟩ : ∃ ne, m.es.length = ne := ⟨_, rfl⟩
        obtain ⟨ys, eys⟩ : ∃ ys, pMsg m.x = ys := ⟨_, rfl⟩
        obtain ⟨yl, eyl⟩ : ∃ yl, ys.length = yl := ⟨_, rfl⟩
        have hby : Byt ys := by rw [← eys]; exact pMsg_byt HO.out
        rw [enl, eAn] at HNM hc26
        rw [enn] at HNM hc26
        rw [ene] at hc10
        rw [eys] at HPut
        have hnn := HO.out.names.2
        rw [enl, enn] at hnn
        have HBY := Lib.hid hby
        have HYL := Lib.hid eyl
        have HNL := Lib.hid enn
        have HTK : Hid (bsL (ms.take (i + 1)) = bsL (ms.take i) ++ [ys]) := Lib.hid (by rw [htk]; unfold bsL; rw [List.map_append, ← eys]; rfl)
        have hT := hst.out.total (by rw [bsL_len, hlen]; omega)
        obtain ⟨bs, ebs⟩ : ∃ bs, bsL (ms.take i) = bs := ⟨_, rfl⟩
        rw [ebs] at hst hs1 hT HTK ⊢
        obtain ⟨T, eT⟩ : ∃ T, (frs bs).length = T := ⟨_, rfl⟩
        have HFT := Lib.hid eT
        rw [eT] at hs1 hT ⊢
        clear hmi htk hlen em hrow ec hcl enl eAn enn ene eys eyl hby ebs eT
        go_wp2_with fail
        go_loop [7] (fun vk => ∃ k : Nat, k ≤ nn ∧ vk = .int .i64 k) (fun vk => nn - (intOf vk).toNat)
        case atStart => exact ⟨0, by omega, rfl⟩
        case round =>
          obtain ⟨k, hk, rfl⟩ := hrel
          by_cases hkn : k < nn
          · as_aux_lemma =>
              have hkl : k < nl.length := by rw [HNL.out]; exact hkn
              obtain ⟨bd, hAn, hbb, hcell⟩ := HNM.out.2 (by omega)
              have hs := hcell k (stv nl[k]) (by rw [List.getElem?_map, List.getElem?_eq_getElem hkl]; rfl)
              obtain ⟨s, es⟩ : ∃ s, nl[k] = s := ⟨_, rfl⟩
              rw [es] at hs
              unfold stv at hs
              have hsz := strOf_size s
              obtain ⟨sl, esl⟩ : ∃ sl, s.length = sl := ⟨_, rfl⟩
              rw [esl] at hsz
              subst hAn
              clear hcell es esl
              by_cases hlong : 1000000 < sl
              · have g1 : decide ((sl : Int) > 1000000) = true := decide_eq_true (by omega)
                have g2 : decide (1000000 < sl) = true := decide_eq_true hlong
                have KB := Lib.hid hst.out.bel
                clear hlong
                go_wp2_with (go_at_call 13; refine (heads_any _ (Lib.hid (hg.out.later KB.out))).mono ?_; rintro e w10 ⟨rfl, he⟩; have HE := Lib.hid (KB.out.trans (he.mono KB.out.size)); clear he)
                go_ret
                exact ⟨rfl, HE.out⟩
              · have g1 : decide ((sl : Int) > 1000000) = false := decide_eq_false (by omega)
                have g2 : decide (1000000 < sl) = false := decide_eq_false hlong
                clear hlong
                go_wp2_with fail
                exact ⟨⟨k + 1, by omega, by go_num⟩, by simp [intOf]; omega⟩
          · as_aux_lemma =>
              obtain rfl : k = nn := by omega
              by_cases h1 : 1000000 < yl
              · have g1 : decide ((yl : Int) > 1000000) = true := decide_eq_true (by omega)
                have g2 : decide (1000000 < yl) = true := decide_eq_true h1
                clear h1
                go_wp2_with (first
                  | (refine wpl_load_at rfl 38 (.tmp 48) rfl (ad.add (i * 27)) c.toList _ rfl HROW.out Tryz.underlying38 rfl (by rw [HCL.out]; exact sizeMsg) ?_)
                  | (go_at_call 9; refine HPut.out.mono ?_; rintro e w2 ⟨A1, n1, c1, rfl, r1, hb, q1, q2⟩
                     have S2 := Lib.hid (hst.out.below hb)
                     have KB := Lib.hid S2.out.bel
                     have X2 : Hid (RdB w2 A1 n1 c1 ys) := Lib.hid ⟨r1.out, HBY.out, q1, q2⟩
                     have hc10b : w2.cell? ⟨(ad.add (i * 27)).block, (ad.add (i * 27)).off + 10, none⟩ = some (.slice m.Ae ne m.ce) := (hb.cell (p := ⟨(ad.add (i * 27)).block, (ad.add (i * 27)).off + 10, none⟩) hadb).trans hc10
                     obtain rfl : yl = n1 := (by have := X2.out.len; have := HYL.out; omega)
                     clear hb r1 q1 q2)
                  | (go_at_call 13; refine (heads_any _ (Lib.hid (hg.out.later KB.out))).mono ?_; rintro e w10 ⟨rfl, he⟩; have HE := Lib.hid (KB.out.trans (he.mono KB.out.size)); clear he))
                go_ret
                exact ⟨rfl, HE.out⟩
              · have g1 : decide ((yl : Int) > 1000000) = false := decide_eq_false (by omega)
                have g2 : decide (1000000 < yl) = false := decide_eq_false h1
                by_cases h2 : 1000000 < ne
                · have g3 : decide ((ne : Int) > 1000000) = true := decide_eq_true (by omega)
                  have g4 : decide (1000000 < ne) = true := decide_eq_true h2
                  go_wp2_with (first
                    | (refine wpl_load_at rfl 38 (.tmp 48) rfl (ad.add (i * 27)) c.toList _ rfl HROW.out Tryz.underlying38 rfl (by rw [HCL.out]; exact sizeMsg) ?_)
                    | (go_at_call 9; refine HPut.out.mono ?_; rintro e w2 ⟨A1, n1, c1, rfl, r1, hb, q1, q2⟩
                       have S2 := Lib.hid (hst.out.below hb)
                       have KB := Lib.hid S2.out.bel
                       have X2 : Hid (RdB w2 A1 n1 c1 ys) := Lib.hid ⟨r1.out, HBY.out, q1, q2⟩
                       have hc10b : w2.cell? ⟨(ad.add (i * 27)).block, (ad.add (i * 27)).off + 10, none⟩ = some (.slice m.Ae ne m.ce) := (hb.cell (p := ⟨(ad.add (i * 27)).block, (ad.add (i * 27)).off + 10, none⟩) hadb).trans hc10
                       obtain rfl : yl = n1 := (by have := X2.out.len; have := HYL.out; omega)
                       clear hb r1 q1 q2)
                    | (go_at_call 13; refine (heads_any _ (Lib.hid (hg.out.later KB.out))).mono ?_; rintro e w10 ⟨rfl, he⟩; have HE := Lib.hid (KB.out.trans (he.mono KB.out.size)); clear he))
                  go_ret
                  exact ⟨rfl, HE.out⟩
                · have g3 : decide ((ne : Int) > 1000000) = false := decide_eq_false (by omega)
                  have g4 : decide (1000000 < ne) = false := decide_eq_false h2
                  go_wp2_with (first
                    | (refine wpl_load_at rfl 38 (.tmp 48) rfl (ad.add (i * 27)) c.toList _ rfl HROW.out Tryz.underlying38 rfl (by rw [HCL.out]; exact sizeMsg) ?_)
                    | (go_at_call 9; refine HPut.out.mono ?_; rintro e w2 ⟨A1, n1, c1, rfl, r1, hb, q1, q2⟩
                       have S2 := Lib.hid (hst.out.below hb)
                       have KB := Lib.hid S2.out.bel
                       have X2 : Hid (RdB w2 A1 n1 c1 ys) := Lib.hid ⟨r1.out, HBY.out, q1, q2⟩
                       have hc10b : w2.cell? ⟨(ad.add (i * 27)).block, (ad.add (i * 27)).off + 10, none⟩ = some (.slice m.Ae ne m.ce) := (hb.cell (p := ⟨(ad.add (i * 27)).block, (ad.add (i * 27)).off + 10, none⟩) hadb).trans hc10
                       obtain rfl : yl = n1 := (by have := X2.out.len; have := HYL.out; omega)
                       clear hb r1 q1 q2)
                    | (go_at_call 14; refine ((Frame_any A1 yl c1 ys w2 X2).mono fun e w' k => frm_own6 (by omega) k).mono ?_; rintro e w3 ⟨hb, A3, c3, rfl, ho⟩
                       have S3 := Lib.hid (S2.out.below hb)
                       have O3 := Lib.hid ho
                       clear hb ho)
                    | (at_builtin
                       refine wpl_append rfl (.tmp 71) (.tmp 72) _ rfl W W.heap.size 5 _ 1 1 Tryz.underlying33 Tryz.infoU8 rfl (by decide) (.slice AS T cs) T ((frs bs).map bv) rfl (by have := S3.out.s; rw [HFT.out] at this; exact this) w3.heap.size A3 (yl + 12) c3 ((fr ys).map bv) rfl (Reads.of_own O3.out) (bv_one _) (by omega) (by decide) S3.out.bel S3.out.bel.size ?_
                       intro v4 w4 hh))
                  refine ⟨⟨i + 1, by omega, by go_num, Lib.hid ?_⟩, by simp [intOf]; omega⟩
                  rw [HTK.out]
                  refine ⟨?_, hh.out.2.1, ?_⟩
                  · rw [frs_app, frs_one, List.length_append, HFT.out, fr_len, HYL.out, List.map_append]
                    exact hh.out.1
                  · intro b hb
                    rcases List.mem_append.1 hb with hb | hb
                    · exact hst.out.len b hb
                    · rw [List.mem_singleton.1 hb]
                      have := HYL.out
                      omega
    · as_aux_lemma =>
        obtain rfl : i = N := by omega
        have htl : ms.take i = ms := List.take_of_length_le (by rw [HN.out]; omega)
        rw [htl] at hst hs1 ⊢
        have hT := hst.out.total (by rw [bsL_len, HN.out]; omega)
        have hBL : (bsL ms).length = i := by rw [bsL_len]; exact HN.out
        have HBG : Hid (∀ (j : Nat) (hj : j < ms.length) (h : j < (bsL ms).length), (bsL ms)[j] = pMsg ms[j].x) := Lib.hid (fun j hj h => by simp [bsL])
        have HBO : Hid (∀ b ∈ bsL ms, (∀ x ∈ b, x < 256) ∧ b.length ≤ 4194304) := Lib.hid (fun b hb => by
          refine ⟨?_, by have := hst.out.len b hb; omega⟩
          obtain ⟨m, hm, rfl⟩ := List.mem_map.1 hb
          exact pMsg_byt (hM.out m hm).2)
        obtain ⟨bs, ebs⟩ : ∃ bs, bsL ms = bs := ⟨_, rfl⟩
        rw [ebs] at hst hs1 hT HBO hBL ⊢
        have HBG : Hid (∀ (j : Nat) (hj : j < ms.length) (h : j < bs.length), bs[j] = pMsg ms[j].x) := Lib.hid (by subst ebs; exact HBG.out)
        obtain ⟨T, eT⟩ : ∃ T, (frs bs).length = T := ⟨_, rfl⟩
        have HFT := Lib.hid eT
        rw [eT] at hs1 hT ⊢
        have HBL := Lib.hid hBL
        clear htl eT ebs hBL hGw
        have hcv := Go.Joins.run_convert_bytes_const_at (P := Tryz.prog) wr 33 5 (unf.map bv).toArray 10 10 wr.heap.size rfl Tryz.underlying33 Tryz.underlying5
        have hba : Below wr.heap.size wr (wr.alloc (.cells (unf.map bv).toArray 5 ((unf.map bv).toArray.size, (unf.map bv).toArray.size + 1))) := (Below.refl _ _).alloc (Nat.le_refl _) _
        have hra := reads_mark wr 5 unf ((unf.map bv).toArray.size, (unf.map bv).toArray.size + 1) 10 rfl
        obtain ⟨wa, ea⟩ : ∃ wa, wr.alloc (.cells (unf.map bv).toArray 5 ((unf.map bv).toArray.size, (unf.map bv).toArray.size + 1)) = wa := ⟨_, rfl⟩
        have hsa : wa.heap.size = wr.heap.size + 1 := by rw [← ea]; simp
        rw [ea] at hba hra hcv
        obtain ⟨w0, ew0⟩ : ∃ w0, wr.alloc (.cells (unf.map bv).toArray 5) = w0 := ⟨_, rfl⟩
        rw [ew0] at hcv
        have HCV := Lib.hid hcv
        clear hcv
        have HF := Lib.hid ((Frame_any (some ⟨wr.heap.size, 0, none⟩) 10 10 unf wa (Lib.hid ⟨by rw [hsa]; exact hra, unf_byt, Nat.le_refl _, by unfold maxLen; omega⟩)).mono fun e w' k => frm_own6 (by omega) k)
        have SA := Lib.hid (hst.out.below hba)
        clear hba hra hsa hst
        clear ea
        go_upto_region 18 with fail
        go_step
        refine wpList_buildFlat rfl 33 5 10 _ rfl .u8 unfZ (by kernel_rfl) (by kernel_rfl) (by kernel_rfl) (by kernel_rfl) (by decide) (by decide) (by kernel_rfl) ?_
        rw [show (unfZ.map (Value.int .u8)).toArray = (unf.map bv).toArray from rfl, ew0]
        try simp only [Act.put, List.setIfInBounds_toArray, List.set_cons_zero, List.set_cons_succ]
        refine wpl_conv rfl 33 33 (.tmp 77) rfl _ _ _ rfl HCV.out ?_
        try simp only [Act.put, List.setIfInBounds_toArray, List.set_cons_zero, List.set_cons_succ]
        clear ew0
        go_wp2_with fail
        refine HF.out.mono ?_
        rintro e w1 ⟨hb, A2, c2, rfl, ho⟩
        have S1 := Lib.hid (SA.out.below hb)
        have hRF := Reads.of_own ho
        obtain ⟨A2', c2', e2', hc2, hm2⟩ := own_slice ho
        injection e2' with e2a e2b e2c
        subst e2a e2c
        have HRF := Lib.hid hRF
        clear hb ho e2b SA HF hRF
        have hUL := unf_len
        by_cases hz : a < 0
        · as_aux_lemma =>
          have d1 : decide (a < 0) = true := decide_eq_true hz
          have hkk : 0 < 22 := by omega
          have hK : AllR (frs bs ++ (fr unf).take 0) bs (frs bs).length := allR_frs HBO.out (nxt_cut0 unf_byt (by decide) (by rw [hUL]; exact hkk))
          have hsl : ∀ W : World, (Instr.sliceAt 33 (.slice A2 (10 + 12) c2) none (some (.int .i64 0)) none).run Tryz.prog W = .ok (.slice A2 0 c2) W := fun W => by
            obtain ⟨i0, hi0, hz0, hz1, hz2⟩ := info_parts Tryz.infoU8
            exact slice_to Tryz.underlying33 hi0 hz1 A2 (10 + 12) c2 0 (by omega) W
          have hsl2 : ∀ W : World, (Instr.sliceAt 33 (.slice A2 22 c2) none (some (.int .i64 0)) none).run Tryz.prog W = .ok (.slice A2 0 c2) W := hsl
          have HRK : Hid (Reads w1 w1.heap.size 1 A2 0 (((fr unf).take 0).map bv)) := Lib.hid (by
            have := HRF.out.first (k := 0) (by omega)
            rw [← List.map_take] at this
            exact this)
          rw [HFT.out] at hK
          have hz9 : ((T : Int) != (T : Int)) = false := by simp
          have hz8 : ((i : Int) != (i : Int)) = false := by simp
          have HAL := Lib.hid (fun A5 c5 w5 h h2 => (All_any A5 (T + 0) c5 (frs bs ++ (fr unf).take 0) w5 h h2 (by omega)).mono fun e w' h => (by have h3 := all_in6 hK h; rw [HBL.out] at h3; exact h3 : Below w5.heap.size w5 w' ∧ ∃ A k, e = .returned (.tuple #[.slice A i k, .int .i64 (T : Int)]) ∧ InM w' A k bs))
          have HBY5 : Hid (Byt (frs bs ++ (fr unf).take 0)) := Lib.hid (fun x hx => by
            rcases List.mem_append.1 hx with hx | hx
            · obtain ⟨b, hb, hx⟩ := List.mem_flatMap.1 hx
              exact fr_byt (HBO.out b hb).1 (HBO.out b hb).2 x hx
            · exact fr_byt unf_byt (by decide) x (List.mem_of_mem_take hx))
          clear hK
          go_wp2_with (first
            | (at_builtin
               refine wpl_append rfl (.tmp 90) (.tmp 93) _ rfl W W.heap.size 5 _ 1 1 Tryz.underlying33 Tryz.infoU8 rfl (by decide) (.slice AS T cs) T ((frs bs).map bv) rfl (by have := S1.out.s; rw [HFT.out] at this; exact this) w1.heap.size A2 0 c2 (((fr unf).take 0).map bv) rfl HRK.out (bv_one _) (by omega) (by decide) S1.out.bel S1.out.bel.size ?_
               intro v5 w5 hh
               obtain ⟨A5, c5, rfl, hc5, hm5⟩ := own_slice hh.out.1
               have K5 := Lib.hid hh.out.2.1
               have X5 : Hid (RdB w5 A5 (T + 0) c5 (frs bs ++ (fr unf).take 0)) := Lib.hid ⟨by rw [List.map_append]; exact Reads.of_own hh.out.1, HBY5.out, hc5, hm5⟩
               clear hh hc5 hm5)
            | (go_at_call 16; refine (HAL.out A5 c5 w5 X5 (Lib.hid (hg.out.later K5.out))).mono ?_; rintro e w6 ⟨hb, A6, c6, rfl, r6⟩
               have K6 := Lib.hid (K5.out.trans (hb.mono K5.out.size))
               have G6 := Lib.hid r6
               clear hb r6))
          have hc6 := G6.out.1
          have hm6 := G6.out.2.1
          rw [HBL.out] at hc6
          unfold maxLen at hm6
          go_loopw [16, 17, 18] (fun vi _ _ wr => ∃ j : Nat, j ≤ i ∧ vi = .int .i64 j ∧ Hid (Below w6.heap.size w6 wr)) (fun vi _ _ _ => i - (intOf vi).toNat)
          case atStart => exact ⟨0, by omega, rfl, Lib.hid (Below.refl _ _)⟩
          case round =>
            obtain ⟨j, hj, rfl, hbl⟩ := hrel
            have KB := Lib.hid (K6.out.trans (hbl.out.mono K6.out.size))
            by_cases hlt2 : j < i
            · as_aux_lemma =>
              have hjl : j < ms.length := by rw [HN.out]; exact hlt2
              obtain ⟨gd, D, c, eg, hgc, hB⟩ := inM_row6 (G6.out.later hbl.out) (i := j) (by rw [HBL.out]; exact hlt2)
              obtain ⟨ad, rfl, hadb, hrow⟩ := mg_row (hR.out.later KB.out) hjl HN.out
              have hmi := hM.out _ (List.getElem_mem hjl)
              rw [HBG.out j hjl (by rw [HBL.out]; exact hlt2)] at hgc hB
              obtain ⟨m, em⟩ : ∃ m, ms[j] = m := ⟨_, rfl⟩
              rw [em] at hrow hmi hgc hB
              have HI := Lib.hid (hmi.1.later KB.out)
              have HO := Lib.hid hmi.2
              obtain ⟨yl, eyl⟩ : ∃ yl, (pMsg m.x).length = yl := ⟨_, rfl⟩
              rw [eyl] at hgc hB
              have HGW := Lib.hid (hg.out.later KB.out)
              have hyl : yl ≤ 4194304 := by
                have h1 := HBO.out (pMsg m.x) (by rw [← em, ← HBG.out j hjl (by rw [HBL.out]; exact hlt2)]; exact List.getElem_mem _)
                omega
              have HGet := Lib.hid ((Get_any D yl c (pMsg m.x) _ (Lib.hid ⟨hB.1, hB.2.1, eyl, hB.2.2.1, hB.2.2.2, by omega⟩) HGW).mono fun e w' h => get_back HO.out eyl h)
              have HSM := Lib.hid (fun m2 w9 h1 h2 (h3 : m2.x = m.x) => rsame_msg m2 m w9 h1 (Lib.hid (by rw [h3]; exact HO.out)) h2 HO)
              obtain ⟨cl, ecl⟩ : ∃ cl, mgCs m = cl := ⟨_, rfl⟩
              have hcl : cl.toList.length = 27 := by rw [← ecl]; rfl
              rw [ecl] at hrow HSM
              have HCL := Lib.hid hcl
              have HROW := Lib.hid hrow
              subst eg
              clear hmi em hrow hB eyl ecl hcl hyl
              go_wp2_with fail
              refine HGet.out.mono ?_
              rintro e w7 ⟨hb, m2, hx2, rfl, hi2⟩
              have hcl7 := cells_bel HROW.out hadb
              have K7 := Lib.hid (KB.out.trans (hb.mono KB.out.size))
              have HB7 := Lib.hid hb
              have HI2 := Lib.hid hi2
              have HX2 := Lib.hid hx2
              have HSM2 := Lib.hid (fun w9 h1 h2 => HSM.out m2 w9 h1 h2 hx2)
              obtain ⟨c7, ec7⟩ : ∃ c7, mgCs m2 = c7 := ⟨_, rfl⟩
              have hs7 : c7.size = 27 := by rw [← ec7]; rfl
              have ho7 : c7.toList.all (·.oneCell') = true := by rw [← ec7]; rfl
              rw [ec7] at HSM2 ⊢
              have HS7 := Lib.hid hs7
              have HO7 := Lib.hid ho7
              obtain ⟨b7, eb7⟩ : ∃ b, w7.heap.size = b := ⟨_, rfl⟩
              have hB8 : Blk (w7.alloc (.cells #[.int .i64 0, .int .i64 0, .int .i64 0, .int .u64 0, .int .u64 0, .int .u64 0, .int .u64 0, .int .u64 0, .bool false, .bool false, .slice none 0 0, .slice none 0 0, .slice none 0 0, .int .u64 0, .int .i64 0, .int .u64 0, .int .i64 0, .int .i64 0, .int .i64 0, .int .u32 0, .slice none 0 0, .int .u64 0, .int .u64 0, .int .i64 0, .string ⟨#[]⟩, .int .i64 0, .slice none 0 0] 38)) b7 38 #[.int .i64 0, .int .i64 0, .int .i64 0, .int .u64 0, .int .u64 0, .int .u64 0, .int .u64 0, .int .u64 0, .bool false, .bool false, .slice none 0 0, .slice none 0 0, .slice none 0 0, .int .u64 0, .int .i64 0, .int .u64 0, .int .i64 0, .int .i64 0, .int .i64 0, .int .u32 0, .slice none 0 0, .int .u64 0, .int .u64 0, .int .i64 0, .string ⟨#[]⟩, .int .i64 0, .slice none 0 0] := by rw [← eb7]; exact Blk.new w7 _ _
              have hb8 : Below w7.heap.size w7 (w7.alloc (.cells #[.int .i64 0, .int .i64 0, .int .i64 0, .int .u64 0, .int .u64 0, .int .u64 0, .int .u64 0, .int .u64 0, .bool false, .bool false, .slice none 0 0, .slice none 0 0, .slice none 0 0, .int .u64 0, .int .i64 0, .int .u64 0, .int .i64 0, .int .i64 0, .int .i64 0, .int .u32 0, .slice none 0 0, .int .u64 0, .int .u64 0, .int .i64 0, .string ⟨#[]⟩, .int .i64 0, .slice none 0 0] 38)) := (Below.refl _ _).alloc (Nat.le_refl _) _
              obtain ⟨w8, ew8⟩ : ∃ w8, w7.alloc (.cells #[.int .i64 0, .int .i64 0, .int .i64 0, .int .u64 0, .int .u64 0, .int .u64 0, .int .u64 0, .int .u64 0, .bool false, .bool false, .slice none 0 0, .slice none 0 0, .slice none 0 0, .int .u64 0, .int .i64 0, .int .u64 0, .int .i64 0, .int .i64 0, .int .i64 0, .int .u32 0, .slice none 0 0, .int .u64 0, .int .u64 0, .int .i64 0, .string ⟨#[]⟩, .int .i64 0, .slice none 0 0] 38) = w8 := ⟨_, rfl⟩
              rw [ew8] at hB8 hb8
              have B8 := Lib.hid hB8
              have HB8 := Lib.hid hb8
              have HE7 := Lib.hid (show w7.heap.size ≤ b7 from by omega)
              clear hb hi2 hx2 hs7 ho7 ec7 hB8 hb8 HGet HSM
              go_wp2_with (first
                | rw [ew8]
                | rw [eb7]
                | (refine wpl_store_blk rfl 38 (.tmp 17) (.tmp 122) rfl b7 38 #[.int .i64 0, .int .i64 0, .int .i64 0, .int .u64 0, .int .u64 0, .int .u64 0, .int .u64 0, .int .u64 0, .bool false, .bool false, .slice none 0 0, .slice none 0 0, .slice none 0 0, .int .u64 0, .int .i64 0, .int .u64 0, .int .i64 0, .int .i64 0, .int .i64 0, .int .u32 0, .slice none 0 0, .int .u64 0, .int .u64 0, .int .i64 0, .string ⟨#[]⟩, .int .i64 0, .slice none 0 0] c7 rfl rfl B8.out HS7.out.symm (by rw [HS7.out]; exact sizeMsg) HO7.out ?_
                   intro w9 hB9 hO9))
              have HB9 := Lib.hid (HB8.out.trans (hO9.out.below HE7.out))
              have K9 := Lib.hid (K7.out.trans (HB9.out.mono K7.out.size))
              have I9 := Lib.hid (HI2.out.later HB9.out)
              have J9 := Lib.hid (HI.out.later (HB7.out.trans (HB9.out.mono HB7.out.size)))
              have hcl9 := hcl7 w9 (HB7.out.trans (HB9.out.mono HB7.out.size))
              have HCL9 := Lib.hid hcl9
              clear hcl7 hcl9 ew8 eb7 hO9 B8
              refine wp_region_late (S0 := fun _ => True) (S := fun w' => Blk w' b7 38 c7 ∧ ∀ q v, cl.toList[q]? = some v → w'.cell? ((ad.add (j * 27)).add q) = some v) 10 11 (by kernel_rfl) rfl ⟨trivial, hB9.out.drew, HCL9.out⟩ (fun wd hwd hH => ?_)
              have nd := Lib.hid (show Below w9.heap.size w9 wd from by rw [hwd]; exact (Below.refl _ _).drew)
              clear hwd
              refine wpAnyT_stay 0 (v := ?_) rfl (by kernel_rfl) (fun _ _ _ h => h) (Or.inl ⟨by rfl, ?_⟩) ⟨hH.1, fun _ => hH.2⟩ ?_
              rotate_left
              · (intro wy hx; go_simp <;> with_reducible rfl)
              try simp only [Act.put, List.setIfInBounds_toArray, List.set_cons_zero, List.set_cons_succ]
              refine wpAnyT_stay 1 (v := ?_) rfl (by kernel_rfl) (fun _ _ _ h => h) (Or.inl ⟨by rfl, ?_⟩) ⟨hH.1, fun _ => hH.2⟩ ?_
              rotate_left
              · (intro wy hx; go_simp <;> with_reducible rfl)
              try simp only [Act.put, List.setIfInBounds_toArray, List.set_cons_zero, List.set_cons_succ]
              refine wpAnyT_stay 2 (v := ?_) rfl (by kernel_rfl) (fun _ _ _ h => h) (Or.inl ⟨by rfl, ?_⟩) ⟨hH.1, fun _ => hH.2⟩ ?_
              rotate_left
              · (intro wy hx; go_simp <;> with_reducible rfl)
              try simp only [Act.put, List.setIfInBounds_toArray, List.set_cons_zero, List.set_cons_succ]
              refine wpAnyT_take 3 rfl (by kernel_rfl) (fun _ _ _ h => h) (yields_load_blk rfl 38 (.tmp 17) rfl b7 38 c7 _ rfl (fun w' hw' => hw'.1) Tryz.underlying38 rfl (by rw [HS7.out]; exact sizeMsg)) hH ?_
              try simp only [Act.put, List.setIfInBounds_toArray, List.set_cons_zero, List.set_cons_succ]
              refine wpAnyT_stay 4 (v := ?_) rfl (by kernel_rfl) (fun _ _ _ h => h) (Or.inl ⟨by rfl, ?_⟩) ⟨hH.1, fun _ => hH.2⟩ ?_
              rotate_left
              · (intro wy hx; go_simp <;> with_reducible rfl)
              try simp only [Act.put, List.setIfInBounds_toArray, List.set_cons_zero, List.set_cons_succ]
              refine wpAnyT_stay 5 (v := ?_) rfl (by kernel_rfl) (fun _ _ _ h => h) (Or.inl ⟨by rfl, ?_⟩) ⟨hH.1, fun _ => hH.2⟩ ?_
              rotate_left
              · (intro wy hx; go_simp <;> with_reducible rfl)
              try simp only [Act.put, List.setIfInBounds_toArray, List.set_cons_zero, List.set_cons_succ]
              refine wpAnyT_stay 6 (v := ?_) rfl (by kernel_rfl) (fun _ _ _ h => h) (Or.inl ⟨by rfl, ?_⟩) ⟨hH.1, fun _ => hH.2⟩ ?_
              rotate_left
              · (intro wy hx; go_simp <;> with_reducible rfl)
              try simp only [Act.put, List.setIfInBounds_toArray, List.set_cons_zero, List.set_cons_succ]
              refine wpAnyT_take 7 rfl (by kernel_rfl) (fun _ _ _ h => h) (yields_load_at rfl 38 (.tmp 130) rfl (ad.add (j * 27)) cl.toList _ rfl (fun w' hw' => hw'.2) Tryz.underlying38 rfl (by rw [HCL.out]; exact sizeMsg)) hH ?_
              try simp only [Act.put, List.setIfInBounds_toArray, List.set_cons_zero, List.set_cons_succ]
              refine wpAnyT_one 8 rfl (by kernel_rfl) (fun K hQ => ?_)
              rw [if_pos (by rfl)]
              go_simp
              go_at_call 22
              refine (HSM2.out _ (Lib.hid (I9.out.later nd.out)) (Lib.hid (J9.out.later nd.out))).mono ?_
              rintro e wf ⟨rfl, hb⟩
              rw [HX2.out, decide_eq_true rfl]
              have KF := Lib.hid (nd.out.trans (hb.mono nd.out.size))
              refine hQ.out _ _ ⟨trivial, hH.2.1.below hb (Nat.lt_of_lt_of_le hB9.out.lt nd.out.size), cells_bel hH.2.2 (Nat.lt_of_lt_of_le hadb (Nat.le_trans HB7.out.size (Nat.le_trans HB9.out.size nd.out.size))) wf hb⟩ (fun hH8 => ?_)
              clear hQ K hb hH
              have hH := hH8
              try simp only [Act.put, List.setIfInBounds_toArray, List.set_cons_zero, List.set_cons_succ]
              refine wpAnyT_stay 9 (v := ?_) rfl (by kernel_rfl) (fun _ _ _ h => h) (Or.inl ⟨by rfl, ?_⟩) ⟨hH.1, fun _ => hH.2⟩ ?_
              rotate_left
              · (intro wy hx; go_simp <;> with_reducible rfl)
              try simp only [Act.put, List.setIfInBounds_toArray, List.set_cons_zero, List.set_cons_succ]
              refine wpAnyT_last 10 rfl (by kernel_rfl) (by decide) (fun K hQ => ?_)
              go_simp
              refine hQ.out _ _ trivial (fun hH6 => ?_)
              clear hQ K
              try simp only [Act.put, List.setIfInBounds_toArray, List.set_cons_zero, List.set_cons_succ]
              refine wpAnyT_done (by kernel_rfl) ?_ _
              go_wp2_with fail
              exact ⟨⟨j + 1, by omega, by go_num, Lib.hid (hbl.out.trans ((HB7.out.trans ((HB9.out.mono HB7.out.size).trans (KF.out.mono (Nat.le_trans HB7.out.size HB9.out.size)))).mono hbl.out.size))⟩, by simp [intOf]; omega⟩
            · as_aux_lemma =>
              go_wp2_with (go_at_call 13; refine (heads_any _ (Lib.hid (hg.out.later KB.out))).mono ?_; rintro e w10 ⟨rfl, he⟩; have HE := Lib.hid (KB.out.trans (he.mono KB.out.size)); clear he)
              go_ret
              exact ⟨rfl, HE.out⟩
        · by_cases hz2 : 22 ≤ a
          · as_aux_lemma =>
            have d1 : decide (a < 0) = false := decide_eq_false hz
            have d2 : decide (a ≥ 22) = true := decide_eq_true hz2
            have d3 : decide (22 ≤ a) = true := decide_eq_true hz2
            have hkk : 0 < 22 := by omega
            have hK : AllR (frs bs ++ (fr unf).take 0) bs (frs bs).length := allR_frs HBO.out (nxt_cut0 unf_byt (by decide) (by rw [hUL]; exact hkk))
            have hsl : ∀ W : World, (Instr.sliceAt 33 (.slice A2 (10 + 12) c2) none (some (.int .i64 0)) none).run Tryz.prog W = .ok (.slice A2 0 c2) W := fun W => by
              obtain ⟨i0, hi0, hz0, hz1, hz2⟩ := info_parts Tryz.infoU8
              exact slice_to Tryz.underlying33 hi0 hz1 A2 (10 + 12) c2 0 (by omega) W
            have hsl2 : ∀ W : World, (Instr.sliceAt 33 (.slice A2 22 c2) none (some (.int .i64 0)) none).run Tryz.prog W = .ok (.slice A2 0 c2) W := hsl
            have HRK : Hid (Reads w1 w1.heap.size 1 A2 0 (((fr unf).take 0).map bv)) := Lib.hid (by
              have := HRF.out.first (k := 0) (by omega)
              rw [← List.map_take] at this
              exact this)
            rw [HFT.out] at hK
            have hz9 : ((T : Int) != (T : Int)) = false := by simp
            have hz8 : ((i : Int) != (i : Int)) = false := by simp
            have HAL := Lib.hid (fun A5 c5 w5 h h2 => (All_any A5 (T + 0) c5 (frs bs ++ (fr unf).take 0) w5 h h2 (by omega)).mono fun e w' h => (by have h3 := all_in6 hK h; rw [HBL.out] at h3; exact h3 : Below w5.heap.size w5 w' ∧ ∃ A k, e = .returned (.tuple #[.slice A i k, .int .i64 (T : Int)]) ∧ InM w' A k bs))
            have HBY5 : Hid (Byt (frs bs ++ (fr unf).take 0)) := Lib.hid (fun x hx => by
              rcases List.mem_append.1 hx with hx | hx
              · obtain ⟨b, hb, hx⟩ := List.mem_flatMap.1 hx
                exact fr_byt (HBO.out b hb).1 (HBO.out b hb).2 x hx
              · exact fr_byt unf_byt (by decide) x (List.mem_of_mem_take hx))
            clear hK
            go_wp2_with (first
              | (at_builtin
                 refine wpl_append rfl (.tmp 90) (.tmp 93) _ rfl W W.heap.size 5 _ 1 1 Tryz.underlying33 Tryz.infoU8 rfl (by decide) (.slice AS T cs) T ((frs bs).map bv) rfl (by have := S1.out.s; rw [HFT.out] at this; exact this) w1.heap.size A2 0 c2 (((fr unf).take 0).map bv) rfl HRK.out (bv_one _) (by omega) (by decide) S1.out.bel S1.out.bel.size ?_
                 intro v5 w5 hh
                 obtain ⟨A5, c5, rfl, hc5, hm5⟩ := own_slice hh.out.1
                 have K5 := Lib.hid hh.out.2.1
                 have X5 : Hid (RdB w5 A5 (T + 0) c5 (frs bs ++ (fr unf).take 0)) := Lib.hid ⟨by rw [List.map_append]; exact Reads.of_own hh.out.1, HBY5.out, hc5, hm5⟩
                 clear hh hc5 hm5)
              | (go_at_call 16; refine (HAL.out A5 c5 w5 X5 (Lib.hid (hg.out.later K5.out))).mono ?_; rintro e w6 ⟨hb, A6, c6, rfl, r6⟩
                 have K6 := Lib.hid (K5.out.trans (hb.mono K5.out.size))
                 have G6 := Lib.hid r6
                 clear hb r6))
            have hc6 := G6.out.1
            have hm6 := G6.out.2.1
            rw [HBL.out] at hc6
            unfold maxLen at hm6
            go_loopw [16, 17, 18] (fun vi _ _ wr => ∃ j : Nat, j ≤ i ∧ vi = .int .i64 j ∧ Hid (Below w6.heap.size w6 wr)) (fun vi _ _ _ => i - (intOf vi).toNat)
            case atStart => exact ⟨0, by omega, rfl, Lib.hid (Below.refl _ _)⟩
            case round =>
              obtain ⟨j, hj, rfl, hbl⟩ := hrel
              have KB := Lib.hid (K6.out.trans (hbl.out.mono K6.out.size))
              by_cases hlt2 : j < i
              · as_aux_lemma =>
                have hjl : j < ms.length := by rw [HN.out]; exact hlt2
                obtain ⟨gd, D, c, eg, hgc, hB⟩ := inM_row6 (G6.out.later hbl.out) (i := j) (by rw [HBL.out]; exact hlt2)
                obtain ⟨ad, rfl, hadb, hrow⟩ := mg_row (hR.out.later KB.out) hjl HN.out
                have hmi := hM.out _ (List.getElem_mem hjl)
                rw [HBG.out j hjl (by rw [HBL.out]; exact hlt2)] at hgc hB
                obtain ⟨m, em⟩ : ∃ m, ms[j] = m := ⟨_, rfl⟩
                rw [em] at hrow hmi hgc hB
                have HI := Lib.hid (hmi.1.later KB.out)
                have HO := Lib.hid hmi.2
                obtain ⟨yl, eyl⟩ : ∃ yl, (pMsg m.x).length = yl := ⟨_, rfl⟩
                rw [eyl] at hgc hB
                have HGW := Lib.hid (hg.out.later KB.out)
                have hyl : yl ≤ 4194304 := by
                  have h1 := HBO.out (pMsg m.x) (by rw [← em, ← HBG.out j hjl (by rw [HBL.out]; exact hlt2)]; exact List.getElem_mem _)
                  omega
                have HGet := Lib.hid ((Get_any D yl c (pMsg m.x) _ (Lib.hid ⟨hB.1, hB.2.1, eyl, hB.2.2.1, hB.2.2.2, by omega⟩) HGW).mono fun e w' h => get_back HO.out eyl h)
                have HSM := Lib.hid (fun m2 w9 h1 h2 (h3 : m2.x = m.x) => rsame_msg m2 m w9 h1 (Lib.hid (by rw [h3]; exact HO.out)) h2 HO)
                obtain ⟨cl, ecl⟩ : ∃ cl, mgCs m = cl := ⟨_, rfl⟩
                have hcl : cl.toList.length = 27 := by rw [← ecl]; rfl
                rw [ecl] at hrow HSM
                have HCL := Lib.hid hcl
                have HROW := Lib.hid hrow
                subst eg
                clear hmi em hrow hB eyl ecl hcl hyl
                go_wp2_with fail
                refine HGet.out.mono ?_
                rintro e w7 ⟨hb, m2, hx2, rfl, hi2⟩
                have hcl7 := cells_bel HROW.out hadb
                have K7 := Lib.hid (KB.out.trans (hb.mono KB.out.size))
                have HB7 := Lib.hid hb
                have HI2 := Lib.hid hi2
                have HX2 := Lib.hid hx2
                have HSM2 := Lib.hid (fun w9 h1 h2 => HSM.out m2 w9 h1 h2 hx2)
                obtain ⟨c7, ec7⟩ : ∃ c7, mgCs m2 = c7 := ⟨_, rfl⟩
                have hs7 : c7.size = 27 := by rw [← ec7]; rfl
                have ho7 : c7.toList.all (·.oneCell') = true := by rw [← ec7]; rfl
                rw [ec7] at HSM2 ⊢
                have HS7 := Lib.hid hs7
                have HO7 := Lib.hid ho7
                obtain ⟨b7, eb7⟩ : ∃ b, w7.heap.size = b := ⟨_, rfl⟩
                have hB8 : Blk (w7.alloc (.cells #[.int .i64 0, .int .i64 0, .int .i64 0, .int .u64 0, .int .u64 0, .int .u64 0, .int .u64 0, .int .u64 0, .bool false, .bool false, .slice none 0 0, .slice none 0 0, .slice none 0 0, .int .u64 0, .int .i64 0, .int .u64 0, .int .i64 0, .int .i64 0, .int .i64 0, .int .u32 0, .slice none 0 0, .int .u64 0, .int .u64 0, .int .i64 0, .string ⟨#[]⟩, .int .i64 0, .slice none 0 0] 38)) b7 38 #[.int .i64 0, .int .i64 0, .int .i64 0, .int .u64 0, .int .u64 0, .int .u64 0, .int .u64 0, .int .u64 0, .bool false, .bool false, .slice none 0 0, .slice none 0 0, .slice none 0 0, .int .u64 0, .int .i64 0, .int .u64 0, .int .i64 0, .int .i64 0, .int .i64 0, .int .u32 0, .slice none 0 0, .int .u64 0, .int .u64 0, .int .i64 0, .string ⟨#[]⟩, .int .i64 0, .slice none 0 0] := by rw [← eb7]; exact Blk.new w7 _ _
                have hb8 : Below w7.heap.size w7 (w7.alloc (.cells #[.int .i64 0, .int .i64 0, .int .i64 0, .int .u64 0, .int .u64 0, .int .u64 0, .int .u64 0, .int .u64 0, .bool false, .bool false, .slice none 0 0, .slice none 0 0, .slice none 0 0, .int .u64 0, .int .i64 0, .int .u64 0, .int .i64 0, .int .i64 0, .int .i64 0, .int .u32 0, .slice none 0 0, .int .u64 0, .int .u64 0, .int .i64 0, .string ⟨#[]⟩, .int .i64 0, .slice none 0 0] 38)) := (Below.refl _ _).alloc (Nat.le_refl _) _
                obtain ⟨w8, ew8⟩ : ∃ w8, w7.alloc (.cells #[.int .i64 0, .int .i64 0, .int .i64 0, .int .u64 0, .int .u64 0, .int .u64 0, .int .u64 0, .int .u64 0, .bool false, .bool false, .slice none 0 0, .slice none 0 0, .slice none 0 0, .int .u64 0, .int .i64 0, .int .u64 0, .int .i64 0, .int .i64 0, .int .i64 0, .int .u32 0, .slice none 0 0, .int .u64 0, .int .u64 0, .int .i64 0, .string ⟨#[]⟩, .int .i64 0, .slice none 0 0] 38) = w8 := ⟨_, rfl⟩
                rw [ew8] at hB8 hb8
                have B8 := Lib.hid hB8
                have HB8 := Lib.hid hb8
                have HE7 := Lib.hid (show w7.heap.size ≤ b7 from by omega)
                clear hb hi2 hx2 hs7 ho7 ec7 hB8 hb8 HGet HSM
                go_wp2_with (first
                  | rw [ew8]
                  | rw [eb7]
                  | (refine wpl_store_blk rfl 38 (.tmp 17) (.tmp 122) rfl b7 38 #[.int .i64 0, .int .i64 0, .int .i64 0, .int .u64 0, .int .u64 0, .int .u64 0, .int .u64 0, .int .u64 0, .bool false, .bool false, .slice none 0 0, .slice none 0 0, .slice none 0 0, .int .u64 0, .int .i64 0, .int .u64 0, .int .i64 0, .int .i64 0, .int .i64 0, .int .u32 0, .slice none 0 0, .int .u64 0, .int .u64 0, .int .i64 0, .string ⟨#[]⟩, .int .i64 0, .slice none 0 0] c7 rfl rfl B8.out HS7.out.symm (by rw [HS7.out]; exact sizeMsg) HO7.out ?_
                     intro w9 hB9 hO9))
                have HB9 := Lib.hid (HB8.out.trans (hO9.out.below HE7.out))
                have K9 := Lib.hid (K7.out.trans (HB9.out.mono K7.out.size))
                have I9 := Lib.hid (HI2.out.later HB9.out)
                have J9 := Lib.hid (HI.out.later (HB7.out.trans (HB9.out.mono HB7.out.size)))
                have hcl9 := hcl7 w9 (HB7.out.trans (HB9.out.mono HB7.out.size))
                have HCL9 := Lib.hid hcl9
                clear hcl7 hcl9 ew8 eb7 hO9 B8
                refine wp_region_late (S0 := fun _ => True) (S := fun w' => Blk w' b7 38 c7 ∧ ∀ q v, cl.toList[q]? = some v → w'.cell? ((ad.add (j * 27)).add q) = some v) 10 11 (by kernel_rfl) rfl ⟨trivial, hB9.out.drew, HCL9.out⟩ (fun wd hwd hH => ?_)
                have nd := Lib.hid (show Below w9.heap.size w9 wd from by rw [hwd]; exact (Below.refl _ _).drew)
                clear hwd
                refine wpAnyT_stay 0 (v := ?_) rfl (by kernel_rfl) (fun _ _ _ h => h) (Or.inl ⟨by rfl, ?_⟩) ⟨hH.1, fun _ => hH.2⟩ ?_
                rotate_left
                · (intro wy hx; go_simp <;> with_reducible rfl)
                try simp only [Act.put, List.setIfInBounds_toArray, List.set_cons_zero, List.set_cons_succ]
                refine wpAnyT_stay 1 (v := ?_) rfl (by kernel_rfl) (fun _ _ _ h => h) (Or.inl ⟨by rfl, ?_⟩) ⟨hH.1, fun _ => hH.2⟩ ?_
                rotate_left
                · (intro wy hx; go_simp <;> with_reducible rfl)
                try simp only [Act.put, List.setIfInBounds_toArray, List.set_cons_zero, List.set_cons_succ]
                refine wpAnyT_stay 2 (v := ?_) rfl (by kernel_rfl) (fun _ _ _ h => h) (Or.inl ⟨by rfl, ?_⟩) ⟨hH.1, fun _ => hH.2⟩ ?_
                rotate_left
                · (intro wy hx; go_simp <;> with_reducible rfl)
                try simp only [Act.put, List.setIfInBounds_toArray, List.set_cons_zero, List.set_cons_succ]
                refine wpAnyT_take 3 rfl (by kernel_rfl) (fun _ _ _ h => h) (yields_load_blk rfl 38 (.tmp 17) rfl b7 38 c7 _ rfl (fun w' hw' => hw'.1) Tryz.underlying38 rfl (by rw [HS7.out]; exact sizeMsg)) hH ?_
                try simp only [Act.put, List.setIfInBounds_toArray, List.set_cons_zero, List.set_cons_succ]
                refine wpAnyT_stay 4 (v := ?_) rfl (by kernel_rfl) (fun _ _ _ h => h) (Or.inl ⟨by rfl, ?_⟩) ⟨hH.1, fun _ => hH.2⟩ ?_
                rotate_left
                · (intro wy hx; go_simp <;> with_reducible rfl)
                try simp only [Act.put, List.setIfInBounds_toArray, List.set_cons_zero, List.set_cons_succ]
                refine wpAnyT_stay 5 (v := ?_) rfl (by kernel_rfl) (fun _ _ _ h => h) (Or.inl ⟨by rfl, ?_⟩) ⟨hH.1, fun _ => hH.2⟩ ?_
                rotate_left
                · (intro wy hx; go_simp <;> with_reducible rfl)
                try simp only [Act.put, List.setIfInBounds_toArray, List.set_cons_zero, List.set_cons_succ]
                refine wpAnyT_stay 6 (v := ?_) rfl (by kernel_rfl) (fun _ _ _ h => h) (Or.inl ⟨by rfl, ?_⟩) ⟨hH.1, fun _ => hH.2⟩ ?_
                rotate_left
                · (intro wy hx; go_simp <;> with_reducible rfl)
                try simp only [Act.put, List.setIfInBounds_toArray, List.set_cons_zero, List.set_cons_succ]
                refine wpAnyT_take 7 rfl (by kernel_rfl) (fun _ _ _ h => h) (yields_load_at rfl 38 (.tmp 130) rfl (ad.add (j * 27)) cl.toList _ rfl (fun w' hw' => hw'.2) Tryz.underlying38 rfl (by rw [HCL.out]; exact sizeMsg)) hH ?_
                try simp only [Act.put, List.setIfInBounds_toArray, List.set_cons_zero, List.set_cons_succ]
                refine wpAnyT_one 8 rfl (by kernel_rfl) (fun K hQ => ?_)
                rw [if_pos (by rfl)]
                go_simp
                go_at_call 22
                refine (HSM2.out _ (Lib.hid (I9.out.later nd.out)) (Lib.hid (J9.out.later nd.out))).mono ?_
                rintro e wf ⟨rfl, hb⟩
                rw [HX2.out, decide_eq_true rfl]
                have KF := Lib.hid (nd.out.trans (hb.mono nd.out.size))
                refine hQ.out _ _ ⟨trivial, hH.2.1.below hb (Nat.lt_of_lt_of_le hB9.out.lt nd.out.size), cells_bel hH.2.2 (Nat.lt_of_lt_of_le hadb (Nat.le_trans HB7.out.size (Nat.le_trans HB9.out.size nd.out.size))) wf hb⟩ (fun hH8 => ?_)
                clear hQ K hb hH
                have hH := hH8
                try simp only [Act.put, List.setIfInBounds_toArray, List.set_cons_zero, List.set_cons_succ]
                refine wpAnyT_stay 9 (v := ?_) rfl (by kernel_rfl) (fun _ _ _ h => h) (Or.inl ⟨by rfl, ?_⟩) ⟨hH.1, fun _ => hH.2⟩ ?_
                rotate_left
                · (intro wy hx; go_simp <;> with_reducible rfl)
                try simp only [Act.put, List.setIfInBounds_toArray, List.set_cons_zero, List.set_cons_succ]
                refine wpAnyT_last 10 rfl (by kernel_rfl) (by decide) (fun K hQ => ?_)
                go_simp
                refine hQ.out _ _ trivial (fun hH6 => ?_)
                clear hQ K
                try simp only [Act.put, List.setIfInBounds_toArray, List.set_cons_zero, List.set_cons_succ]
                refine wpAnyT_done (by kernel_rfl) ?_ _
                go_wp2_with fail
                exact ⟨⟨j + 1, by omega, by go_num, Lib.hid (hbl.out.trans ((HB7.out.trans ((HB9.out.mono HB7.out.size).trans (KF.out.mono (Nat.le_trans HB7.out.size HB9.out.size)))).mono hbl.out.size))⟩, by simp [intOf]; omega⟩
              · as_aux_lemma =>
                go_wp2_with (go_at_call 13; refine (heads_any _ (Lib.hid (hg.out.later KB.out))).mono ?_; rintro e w10 ⟨rfl, he⟩; have HE := Lib.hid (KB.out.trans (he.mono KB.out.size)); clear he)
                go_ret
                exact ⟨rfl, HE.out⟩
          · as_aux_lemma =>
            obtain ⟨k, rfl⟩ := Int.eq_ofNat_of_zero_le (show 0 ≤ a by omega)
            have d1 : decide ((k : Int) < 0) = false := decide_eq_false (by omega)
            have d2 : decide ((k : Int) ≥ 22) = false := decide_eq_false (by omega)
            have d3 : decide (22 ≤ (k : Int)) = false := decide_eq_false (by omega)
            have d4 : decide (22 ≤ k) = false := decide_eq_false (by omega)
            have hkk : k < 22 := by omega
            have hK : AllR (frs bs ++ (fr unf).take k) bs (frs bs).length := allR_frs HBO.out (nxt_cut0 unf_byt (by decide) (by rw [hUL]; exact hkk))
            have hsl : ∀ W : World, (Instr.sliceAt 33 (.slice A2 (10 + 12) c2) none (some (.int .i64 (k : Int))) none).run Tryz.prog W = .ok (.slice A2 k c2) W := fun W => by
              obtain ⟨i0, hi0, hz0, hz1, hz2⟩ := info_parts Tryz.infoU8
              exact slice_to Tryz.underlying33 hi0 hz1 A2 (10 + 12) c2 k (by omega) W
            have hsl2 : ∀ W : World, (Instr.sliceAt 33 (.slice A2 22 c2) none (some (.int .i64 (k : Int))) none).run Tryz.prog W = .ok (.slice A2 k c2) W := hsl
            have HRK : Hid (Reads w1 w1.heap.size 1 A2 k (((fr unf).take k).map bv)) := Lib.hid (by
              have := HRF.out.first (k := k) (by omega)
              rw [← List.map_take] at this
              exact this)
            rw [HFT.out] at hK
            have hz9 : ((T : Int) != (T : Int)) = false := by simp
            have hz8 : ((i : Int) != (i : Int)) = false := by simp
            have HAL := Lib.hid (fun A5 c5 w5 h h2 => (All_any A5 (T + k) c5 (frs bs ++ (fr unf).take k) w5 h h2 (by omega)).mono fun e w' h => (by have h3 := all_in6 hK h; rw [HBL.out] at h3; exact h3 : Below w5.heap.size w5 w' ∧ ∃ A k, e = .returned (.tuple #[.slice A i k, .int .i64 (T : Int)]) ∧ InM w' A k bs))
            have HBY5 : Hid (Byt (frs bs ++ (fr unf).take k)) := Lib.hid (fun x hx => by
              rcases List.mem_append.1 hx with hx | hx
              · obtain ⟨b, hb, hx⟩ := List.mem_flatMap.1 hx
                exact fr_byt (HBO.out b hb).1 (HBO.out b hb).2 x hx
              · exact fr_byt unf_byt (by decide) x (List.mem_of_mem_take hx))
            clear hK
            go_wp2_with (first
              | (at_builtin
                 refine wpl_append rfl (.tmp 90) (.tmp 93) _ rfl W W.heap.size 5 _ 1 1 Tryz.underlying33 Tryz.infoU8 rfl (by decide) (.slice AS T cs) T ((frs bs).map bv) rfl (by have := S1.out.s; rw [HFT.out] at this; exact this) w1.heap.size A2 k c2 (((fr unf).take k).map bv) rfl HRK.out (bv_one _) (by omega) (by decide) S1.out.bel S1.out.bel.size ?_
                 intro v5 w5 hh
                 obtain ⟨A5, c5, rfl, hc5, hm5⟩ := own_slice hh.out.1
                 have K5 := Lib.hid hh.out.2.1
                 have X5 : Hid (RdB w5 A5 (T + k) c5 (frs bs ++ (fr unf).take k)) := Lib.hid ⟨by rw [List.map_append]; exact Reads.of_own hh.out.1, HBY5.out, hc5, hm5⟩
                 clear hh hc5 hm5)
              | (go_at_call 16; refine (HAL.out A5 c5 w5 X5 (Lib.hid (hg.out.later K5.out))).mono ?_; rintro e w6 ⟨hb, A6, c6, rfl, r6⟩
                 have K6 := Lib.hid (K5.out.trans (hb.mono K5.out.size))
                 have G6 := Lib.hid r6
                 clear hb r6))
            have hc6 := G6.out.1
            have hm6 := G6.out.2.1
            rw [HBL.out] at hc6
            unfold maxLen at hm6
            go_loopw [16, 17, 18] (fun vi _ _ wr => ∃ j : Nat, j ≤ i ∧ vi = .int .i64 j ∧ Hid (Below w6.heap.size w6 wr)) (fun vi _ _ _ => i - (intOf vi).toNat)
            case atStart => exact ⟨0, by omega, rfl, Lib.hid (Below.refl _ _)⟩
            case round =>
              obtain ⟨j, hj, rfl, hbl⟩ := hrel
              have KB := Lib.hid (K6.out.trans (hbl.out.mono K6.out.size))
              by_cases hlt2 : j < i
              · as_aux_lemma =>
                have hjl : j < ms.length := by rw [HN.out]; exact hlt2
                obtain ⟨gd, D, c, eg, hgc, hB⟩ := inM_row6 (G6.out.later hbl.out) (i := j) (by rw [HBL.out]; exact hlt2)
                obtain ⟨ad, rfl, hadb, hrow⟩ := mg_row (hR.out.later KB.out) hjl HN.out
                have hmi := hM.out _ (List.getElem_mem hjl)
                rw [HBG.out j hjl (by rw [HBL.out]; exact hlt2)] at hgc hB
                obtain ⟨m, em⟩ : ∃ m, ms[j] = m := ⟨_, rfl⟩
                rw [em] at hrow hmi hgc hB
                have HI := Lib.hid (hmi.1.later KB.out)
                have HO := Lib.hid hmi.2
                obtain ⟨yl, eyl⟩ : ∃ yl, (pMsg m.x).length = yl := ⟨_, rfl⟩
                rw [eyl] at hgc hB
                have HGW := Lib.hid (hg.out.later KB.out)
                have hyl : yl ≤ 4194304 := by
                  have h1 := HBO.out (pMsg m.x) (by rw [← em, ← HBG.out j hjl (by rw [HBL.out]; exact hlt2)]; exact List.getElem_mem _)
                  omega
                have HGet := Lib.hid ((Get_any D yl c (pMsg m.x) _ (Lib.hid ⟨hB.1, hB.2.1, eyl, hB.2.2.1, hB.2.2.2, by omega⟩) HGW).mono fun e w' h => get_back HO.out eyl h)
                have HSM := Lib.hid (fun m2 w9 h1 h2 (h3 : m2.x = m.x) => rsame_msg m2 m w9 h1 (Lib.hid (by rw [h3]; exact HO.out)) h2 HO)
                obtain ⟨cl, ecl⟩ : ∃ cl, mgCs m = cl := ⟨_, rfl⟩
                have hcl : cl.toList.length = 27 := by rw [← ecl]; rfl
                rw [ecl] at hrow HSM
                have HCL := Lib.hid hcl
                have HROW := Lib.hid hrow
                subst eg
                clear hmi em hrow hB eyl ecl hcl hyl
                go_wp2_with fail
                refine HGet.out.mono ?_
                rintro e w7 ⟨hb, m2, hx2, rfl, hi2⟩
                have hcl7 := cells_bel HROW.out hadb
                have K7 := Lib.hid (KB.out.trans (hb.mono KB.out.size))
                have HB7 := Lib.hid hb
                have HI2 := Lib.hid hi2
                have HX2 := Lib.hid hx2
                have HSM2 := Lib.hid (fun w9 h1 h2 => HSM.out m2 w9 h1 h2 hx2)
                obtain ⟨c7, ec7⟩ : ∃ c7, mgCs m2 = c7 := ⟨_, rfl⟩
                have hs7 : c7.size = 27 := by rw [← ec7]; rfl
                have ho7 : c7.toList.all (·.oneCell') = true := by rw [← ec7]; rfl
                rw [ec7] at HSM2 ⊢
                have HS7 := Lib.hid hs7
                have HO7 := Lib.hid ho7
                obtain ⟨b7, eb7⟩ : ∃ b, w7.heap.size = b := ⟨_, rfl⟩
                have hB8 : Blk (w7.alloc (.cells #[.int .i64 0, .int .i64 0, .int .i64 0, .int .u64 0, .int .u64 0, .int .u64 0, .int .u64 0, .int .u64 0, .bool false, .bool false, .slice none 0 0, .slice none 0 0, .slice none 0 0, .int .u64 0, .int .i64 0, .int .u64 0, .int .i64 0, .int .i64 0, .int .i64 0, .int .u32 0, .slice none 0 0, .int .u64 0, .int .u64 0, .int .i64 0, .string ⟨#[]⟩, .int .i64 0, .slice none 0 0] 38)) b7 38 #[.int .i64 0, .int .i64 0, .int .i64 0, .int .u64 0, .int .u64 0, .int .u64 0, .int .u64 0, .int .u64 0, .bool false, .bool false, .slice none 0 0, .slice none 0 0, .slice none 0 0, .int .u64 0, .int .i64 0, .int .u64 0, .int .i64 0, .int .i64 0, .int .i64 0, .int .u32 0, .slice none 0 0, .int .u64 0, .int .u64 0, .int .i64 0, .string ⟨#[]⟩, .int .i64 0, .slice none 0 0] := by rw [← eb7]; exact Blk.new w7 _ _
                have hb8 : Below w7.heap.size w7 (w7.alloc (.cells #[.int .i64 0, .int .i64 0, .int .i64 0, .int .u64 0, .int .u64 0, .int .u64 0, .int .u64 0, .int .u64 0, .bool false, .bool false, .slice none 0 0, .slice none 0 0, .slice none 0 0, .int .u64 0, .int .i64 0, .int .u64 0, .int .i64 0, .int .i64 0, .int .i64 0, .int .u32 0, .slice none 0 0, .int .u64 0, .int .u64 0, .int .i64 0, .string ⟨#[]⟩, .int .i64 0, .slice none 0 0] 38)) := (Below.refl _ _).alloc (Nat.le_refl _) _
                obtain ⟨w8, ew8⟩ : ∃ w8, w7.alloc (.cells #[.int .i64 0, .int .i64 0, .int .i64 0, .int .u64 0, .int .u64 0, .int .u64 0, .int .u64 0, .int .u64 0, .bool false, .bool false, .slice none 0 0, .slice none 0 0, .slice none 0 0, .int .u64 0, .int .i64 0, .int .u64 0, .int .i64 0, .int .i64 0, .int .i64 0, .int .u32 0, .slice none 0 0, .int .u64 0, .int .u64 0, .int .i64 0, .string ⟨#[]⟩, .int .i64 0, .slice none 0 0] 38) = w8 := ⟨_, rfl⟩
                rw [ew8] at hB8 hb8
                have B8 := Lib.hid hB8
                have HB8 := Lib.hid hb8
                have HE7 := Lib.hid (show w7.heap.size ≤ b7 from by omega)
                clear hb hi2 hx2 hs7 ho7 ec7 hB8 hb8 HGet HSM
                go_wp2_with (first
                  | rw [ew8]
                  | rw [eb7]
                  | (refine wpl_store_blk rfl 38 (.tmp 17) (.tmp 122) rfl b7 38 #[.int .i64 0, .int .i64 0, .int .i64 0, .int .u64 0, .int .u64 0, .int .u64 0, .int .u64 0, .int .u64 0, .bool false, .bool false, .slice none 0 0, .slice none 0 0, .slice none 0 0, .int .u64 0, .int .i64 0, .int .u64 0, .int .i64 0, .int .i64 0, .int .i64 0, .int .u32 0, .slice none 0 0, .int .u64 0, .int .u64 0, .int .i64 0, .string ⟨#[]⟩, .int .i64 0, .slice none 0 0] c7 rfl rfl B8.out HS7.out.symm (by rw [HS7.out]; exact sizeMsg) HO7.out ?_
                     intro w9 hB9 hO9))
                have HB9 := Lib.hid (HB8.out.trans (hO9.out.below HE7.out))
                have K9 := Lib.hid (K7.out.trans (HB9.out.mono K7.out.size))
                have I9 := Lib.hid (HI2.out.later HB9.out)
                have J9 := Lib.hid (HI.out.later (HB7.out.trans (HB9.out.mono HB7.out.size)))
                have hcl9 := hcl7 w9 (HB7.out.trans (HB9.out.mono HB7.out.size))
                have HCL9 := Lib.hid hcl9
                clear hcl7 hcl9 ew8 eb7 hO9 B8
                refine wp_region_late (S0 := fun _ => True) (S := fun w' => Blk w' b7 38 c7 ∧ ∀ q v, cl.toList[q]? = some v → w'.cell? ((ad.add (j * 27)).add q) = some v) 10 11 (by kernel_rfl) rfl ⟨trivial, hB9.out.drew, HCL9.out⟩ (fun wd hwd hH => ?_)
                have nd := Lib.hid (show Below w9.heap.size w9 wd from by rw [hwd]; exact (Below.refl _ _).drew)
                clear hwd
                refine wpAnyT_stay 0 (v := ?_) rfl (by kernel_rfl) (fun _ _ _ h => h) (Or.inl ⟨by rfl, ?_⟩) ⟨hH.1, fun _ => hH.2⟩ ?_
                rotate_left
                · (intro wy hx; go_simp <;> with_reducible rfl)
                try simp only [Act.put, List.setIfInBounds_toArray, List.set_cons_zero, List.set_cons_succ]
                refine wpAnyT_stay 1 (v := ?_) rfl (by kernel_rfl) (fun _ _ _ h => h) (Or.inl ⟨by rfl, ?_⟩) ⟨hH.1, fun _ => hH.2⟩ ?_
                rotate_left
                · (intro wy hx; go_simp <;> with_reducible rfl)
                try simp only [Act.put, List.setIfInBounds_toArray, List.set_cons_zero, List.set_cons_succ]
                refine wpAnyT_stay 2 (v := ?_) rfl (by kernel_rfl) (fun _ _ _ h => h) (Or.inl ⟨by rfl, ?_⟩) ⟨hH.1, fun _ => hH.2⟩ ?_
                rotate_left
                · (intro wy hx; go_simp <;> with_reducible rfl)
                try simp only [Act.put, List.setIfInBounds_toArray, List.set_cons_zero, List.set_cons_succ]
                refine wpAnyT_take 3 rfl (by kernel_rfl) (fun _ _ _ h => h) (yields_load_blk rfl 38 (.tmp 17) rfl b7 38 c7 _ rfl (fun w' hw' => hw'.1) Tryz.underlying38 rfl (by rw [HS7.out]; exact sizeMsg)) hH ?_
                try simp only [Act.put, List.setIfInBounds_toArray, List.set_cons_zero, List.set_cons_succ]
                refine wpAnyT_stay 4 (v := ?_) rfl (by kernel_rfl) (fun _ _ _ h => h) (Or.inl ⟨by rfl, ?_⟩) ⟨hH.1, fun _ => hH.2⟩ ?_
                rotate_left
                · (intro wy hx; go_simp <;> with_reducible rfl)
                try simp only [Act.put, List.setIfInBounds_toArray, List.set_cons_zero, List.set_cons_succ]
                refine wpAnyT_stay 5 (v := ?_) rfl (by kernel_rfl) (fun _ _ _ h => h) (Or.inl ⟨by rfl, ?_⟩) ⟨hH.1, fun _ => hH.2⟩ ?_
                rotate_left
                · (intro wy hx; go_simp <;> with_reducible rfl)
                try simp only [Act.put, List.setIfInBounds_toArray, List.set_cons_zero, List.set_cons_succ]
                refine wpAnyT_stay 6 (v := ?_) rfl (by kernel_rfl) (fun _ _ _ h => h) (Or.inl ⟨by rfl, ?_⟩) ⟨hH.1, fun _ => hH.2⟩ ?_
                rotate_left
                · (intro wy hx; go_simp <;> with_reducible rfl)
                try simp only [Act.put, List.setIfInBounds_toArray, List.set_cons_zero, List.set_cons_succ]
                refine wpAnyT_take 7 rfl (by kernel_rfl) (fun _ _ _ h => h) (yields_load_at rfl 38 (.tmp 130) rfl (ad.add (j * 27)) cl.toList _ rfl (fun w' hw' => hw'.2) Tryz.underlying38 rfl (by rw [HCL.out]; exact sizeMsg)) hH ?_
                try simp only [Act.put, List.setIfInBounds_toArray, List.set_cons_zero, List.set_cons_succ]
                refine wpAnyT_one 8 rfl (by kernel_rfl) (fun K hQ => ?_)
                rw [if_pos (by rfl)]
                go_simp
                go_at_call 22
                refine (HSM2.out _ (Lib.hid (I9.out.later nd.out)) (Lib.hid (J9.out.later nd.out))).mono ?_
                rintro e wf ⟨rfl, hb⟩
                rw [HX2.out, decide_eq_true rfl]
                have KF := Lib.hid (nd.out.trans (hb.mono nd.out.size))
                refine hQ.out _ _ ⟨trivial, hH.2.1.below hb (Nat.lt_of_lt_of_le hB9.out.lt nd.out.size), cells_bel hH.2.2 (Nat.lt_of_lt_of_le hadb (Nat.le_trans HB7.out.size (Nat.le_trans HB9.out.size nd.out.size))) wf hb⟩ (fun hH8 => ?_)
                clear hQ K hb hH
                have hH := hH8
                try simp only [Act.put, List.setIfInBounds_toArray, List.set_cons_zero, List.set_cons_succ]
                refine wpAnyT_stay 9 (v := ?_) rfl (by kernel_rfl) (fun _ _ _ h => h) (Or.inl ⟨by rfl, ?_⟩) ⟨hH.1, fun _ => hH.2⟩ ?_
                rotate_left
                · (intro wy hx; go_simp <;> with_reducible rfl)
                try simp only [Act.put, List.setIfInBounds_toArray, List.set_cons_zero, List.set_cons_succ]
                refine wpAnyT_last 10 rfl (by kernel_rfl) (by decide) (fun K hQ => ?_)
                go_simp
                refine hQ.out _ _ trivial (fun hH6 => ?_)
                clear hQ K
                try simp only [Act.put, List.setIfInBounds_toArray, List.set_cons_zero, List.set_cons_succ]
                refine wpAnyT_done (by kernel_rfl) ?_ _
                go_wp2_with fail
                exact ⟨⟨j + 1, by omega, by go_num, Lib.hid (hbl.out.trans ((HB7.out.trans ((HB9.out.mono HB7.out.size).trans (KF.out.mono (Nat.le_trans HB7.out.size HB9.out.size)))).mono hbl.out.size))⟩, by simp [intOf]; omega⟩
              · as_aux_lemma =>
                go_wp2_with (go_at_call 13; refine (heads_any _ (Lib.hid (hg.out.later KB.out))).mono ?_; rintro e w10 ⟨rfl, he⟩; have HE := Lib.hid (KB.out.trans (he.mono KB.out.size)); clear he)
                go_ret
                exact ⟨rfl, HE.out⟩
end Go.Proofs.YtlnneacgllhdhaaGreatDoor
end
