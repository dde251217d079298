/-
  Whether messages, texts, answers are the same, where they are.
-/
import Derived.Test.YtmamdnikjfmenaaClW10
import Derived.Test.YtmamdnikjfmenaaPenW3
namespace Go.Proofs.Ytmamdnikjfmenaa
open Go.RowKit
set_option linter.unusedVariables false
set_option maxRecDepth 100000 in
set_option maxHeartbeats 1000000 in
theorem rows_none (A B : Option Addr) (ca cb : Nat) (w : World) : Calls Try.prog 19 #[.slice A 0 ca, .slice B 0 cb] w fun e w' => e = .returned (.bool true) ∧ Below w.heap.size w w' := by
  go_enter Try.func19, Try.ntmps19
  go_wp2
  go_loopw [5] (fun vi wr => vi = .int .i64 0 ∧ w = wr) (fun _ _ => 0)
  case atStart => exact ⟨rfl, rfl⟩
  case round =>
    obtain ⟨rfl, rfl⟩ := hrel
    go_wp2
    go_ret
    exact ⟨rfl, Below.refl _ _⟩
set_option maxRecDepth 100000 in
set_option maxHeartbeats 1000000 in
theorem rows_one (M : Mg) (g m : Nat) (D : Option Addr) (dc g' m' : Nat) (D' : Option Addr) (dc' : Nat) (ca cb : Nat) (w : World) (hM : M.Ok) (hm : M.data.length = m) (hm' : M.data.length = m') (B1 : Hid (Blk w g 38 (M.cs m D dc))) (B2 : Hid (Blk w g' 38 (M.cs m' D' dc')))
    (HE : Hid (Reads w w.heap.size 1 D m (M.data.map bv))) (HE' : Hid (Reads w w.heap.size 1 D' m' (M.data.map bv))) :
    Calls Try.prog 19 #[.slice (some ⟨g, 0, none⟩) 1 ca, .slice (some ⟨g', 0, none⟩) 1 cb] w fun e w' => e = .returned (.bool true) ∧ Below w.heap.size w w' := by
  have HM := Lib.hid hM
  have HL := Lib.hid hm
  have HL' := Lib.hid hm'
  clear hM hm hm'
  go_enter Try.func19, Try.ntmps19
  go_wp2
  go_loopw [5] (fun vi wr => (vi = .int .i64 0 ∧ w = wr) ∨ (vi = .int .i64 1 ∧ Hid (Below w.heap.size w wr))) (fun vi _ => 1 - (intOf vi).toNat)
  case atStart => exact .inl ⟨rfl, rfl⟩
  case round =>
    rcases hrel with ⟨rfl, rfl⟩ | ⟨rfl, hb⟩
    · go_wp2
      refine wp_region_late (S0 := fun w' => Blk w' g 38 (M.cs m D dc) ∧ Blk w' g' 38 (M.cs m' D' dc')) (S := fun _ => True) 9 10 (by kernel_rfl) rfl ⟨⟨B1.out.drew, B2.out.drew⟩, trivial⟩ (fun wd hwd hH => ?_)
      have nd := Lib.hid (show Below w.heap.size w wd from by rw [hwd]; exact (Below.refl _ _).drew)
      clear hwd
      refine wpAnyT_stay 0 (v := ?_) rfl (by kernel_rfl) (fun _ _ _ h => h) (Or.inl ⟨by rfl, ?_⟩) ⟨hH.1, fun _ => hH.2⟩ ?_
      rotate_left
      · (intro wx hx; go_simp <;> with_reducible rfl)
      try simp only [Act.put, List.setIfInBounds_toArray, List.set_cons_zero, List.set_cons_succ]
      refine wpAnyT_stay 1 (v := ?_) rfl (by kernel_rfl) (fun _ _ _ h => h) (Or.inl ⟨by rfl, ?_⟩) ⟨hH.1, fun _ => hH.2⟩ ?_
      rotate_left
      · (intro wx hx; go_simp <;> with_reducible rfl)
      try simp only [Act.put, List.setIfInBounds_toArray, List.set_cons_zero, List.set_cons_succ]
      refine wpAnyT_stay 2 (v := ?_) rfl (by kernel_rfl) (fun _ _ _ h => h) (Or.inl ⟨by rfl, ?_⟩) ⟨hH.1, fun _ => hH.2⟩ ?_
      rotate_left
      · (intro wx hx; go_simp <;> with_reducible rfl)
      try simp only [Act.put, List.setIfInBounds_toArray, List.set_cons_zero, List.set_cons_succ]
      refine wpAnyT_stay 3 rfl (by kernel_rfl) (fun _ _ _ h => h) (yields_load_blk rfl 38 (.tmp 19) rfl g 38 (M.cs m D dc) _ rfl (fun w' hw' => hw'.1) Try.underlying38 rfl Try.size_msg) ⟨hH.1, fun _ => hH.2⟩ ?_
      try simp only [Act.put, List.setIfInBounds_toArray, List.set_cons_zero, List.set_cons_succ]
      refine wpAnyT_stay 4 (v := ?_) rfl (by kernel_rfl) (fun _ _ _ h => h) (Or.inl ⟨by rfl, ?_⟩) ⟨hH.1, fun _ => hH.2⟩ ?_
      rotate_left
      · (intro wx hx; go_simp <;> with_reducible rfl)
      try simp only [Act.put, List.setIfInBounds_toArray, List.set_cons_zero, List.set_cons_succ]
      refine wpAnyT_stay 5 (v := ?_) rfl (by kernel_rfl) (fun _ _ _ h => h) (Or.inl ⟨by rfl, ?_⟩) ⟨hH.1, fun _ => hH.2⟩ ?_
      rotate_left
      · (intro wx hx; go_simp <;> with_reducible rfl)
      try simp only [Act.put, List.setIfInBounds_toArray, List.set_cons_zero, List.set_cons_succ]
      refine wpAnyT_stay 6 (v := ?_) rfl (by kernel_rfl) (fun _ _ _ h => h) (Or.inl ⟨by rfl, ?_⟩) ⟨hH.1, fun _ => hH.2⟩ ?_
      rotate_left
      · (intro wx hx; go_simp <;> with_reducible rfl)
      try simp only [Act.put, List.setIfInBounds_toArray, List.set_cons_zero, List.set_cons_succ]
      refine wpAnyT_stay 7 rfl (by kernel_rfl) (fun _ _ _ h => h) (yields_load_blk rfl 38 (.tmp 23) rfl g' 38 (M.cs m' D' dc') _ rfl (fun w' hw' => hw'.2) Try.underlying38 rfl Try.size_msg) ⟨hH.1, fun _ => hH.2⟩ ?_
      try simp only [Act.put, List.setIfInBounds_toArray, List.set_cons_zero, List.set_cons_succ]
      refine wpAnyT_one 8 rfl (by kernel_rfl) (fun K hK => ?_)
      go_simp
      (go_at_call 16; refine (msg_same M m D dc m' D' dc' _ HM.out HL.out HL'.out (Lib.hid (HE.out.later nd.out)) (Lib.hid (HE'.out.later nd.out))).mono ?_; rintro e w1 ⟨rfl, hb⟩; have HB1 := Lib.hid hb; clear hb)
      refine hK.out _ _ ⟨⟨hH.1.1.below HB1.out hH.1.1.lt, hH.1.2.below HB1.out hH.1.2.lt⟩, trivial⟩ (fun hH1 => ?_)
      clear hK K
      try simp only [Act.put, List.setIfInBounds_toArray, List.set_cons_zero, List.set_cons_succ]
      refine wpAnyT_last 9 rfl (by kernel_rfl) (by decide) (fun K hK => ?_)
      go_simp
      refine hK.out _ _ hH1.1 (fun hH2 => ?_)
      clear hK K
      try simp only [Act.put, List.setIfInBounds_toArray, List.set_cons_zero, List.set_cons_succ]
      refine wpAnyT_done (by kernel_rfl) ?_ _
      have HF := Lib.hid (bel_trans nd.out HB1.out)
      clear hH hH1 hH2
      go_wp2
      exact ⟨.inr ⟨rfl, HF⟩, by simp [intOf]⟩
    · go_wp2
      go_ret
      exact ⟨rfl, hb.out⟩
def tv (s : ByteArray) : Value := .string s
theorem tv_one (ss : List ByteArray) : ∀ u ∈ ss.map tv, u.oneCell' = true := by
  intro u hu
  obtain ⟨x, _, rfl⟩ := List.mem_map.1 hu
  rfl
theorem Reads.text {w : World} {B n : Nat} {A : Option Addr} {ss : List ByteArray} (h : Reads w B 1 A n (ss.map tv)) {k : Nat} (hk : k < n) :
    ∃ ad, A = some ad ∧ ad.block < B ∧ w.cell? (ad.add k) = some (.string (ss.getD k ⟨#[]⟩)) := by
  obtain ⟨ad, u, e, hb, hx, hc⟩ := h.at_ hk
  have hl : k < ss.length := by have := h.1; simp at this; omega
  refine ⟨ad, e, hb, ?_⟩
  rw [hc, ← hx, List.getElem?_map, List.getElem?_eq_getElem hl, List.getD_eq_getElem?_getD, List.getElem?_eq_getElem hl]
  rfl
set_option maxRecDepth 100000 in
set_option maxHeartbeats 1000000 in
theorem texts_same (A B : Option Addr) (n ca cb : Nat) (ss : List ByteArray) (w : World) (R1 : Hid (Reads w w.heap.size 1 A n (ss.map tv))) (R2 : Hid (Reads w w.heap.size 1 B n (ss.map tv))) (hn : n ≤ 9223372036854775807) :
    Calls Try.prog 37 #[.slice A n ca, .slice B n cb] w fun e w' => e = .returned (.bool true) ∧ Below w.heap.size w w' := by
  go_enter Try.func37, Try.ntmps37
  go_wp2
  go_loopw [5] (fun vi wr => ∃ k d : Nat, k ≤ n ∧ vi = .int .i64 k ∧ wr = w.drewN d) (fun vi _ => n - (intOf vi).toNat)
  case atStart => exact ⟨0, 0, by omega, rfl, rfl⟩
  case round =>
    obtain ⟨k, d, hk, rfl, rfl⟩ := hrel
    by_cases hlt : k < n
    · have d1 : decide (k < n) = true := decide_eq_true hlt
      obtain ⟨a1, rfl, hb1, hc1⟩ := R1.out.text hlt
      obtain ⟨a2, rfl, hb2, hc2⟩ := R2.out.text hlt
      obtain ⟨x, ex⟩ : ∃ x, ss.getD k ⟨#[]⟩ = x := ⟨_, rfl⟩
      rw [ex] at hc1 hc2
      clear ex
      go_wp2
      go_quiet (fail)
      go_wp2
      exact ⟨⟨k + 1, _, by omega, by go_num, by first | rfl | exact World.drewN_drewN ..⟩, by simp [intOf]; omega⟩
    · have d1 : decide (k < n) = false := decide_eq_false hlt
      go_wp2
      go_ret
      exact ⟨rfl, bel_drewN (Below.refl _ _) _⟩
set_option maxRecDepth 100000 in
set_option maxHeartbeats 1000000 in
theorem alike_same (code : Int) (E E' : Option Addr) (em ec ec' : Nat) (data : List Nat) (G G' : Option Addr) (gm gc gc' : Nat) (ss : List ByteArray) (w : World) (hb : Byt data) (hg : gm ≤ 9223372036854775807)
    (RE : Hid (Reads w w.heap.size 1 E em (data.map bv))) (RE' : Hid (Reads w w.heap.size 1 E' em (data.map bv))) (RG : Hid (Reads w w.heap.size 1 G gm (ss.map tv))) (RG' : Hid (Reads w w.heap.size 1 G' gm (ss.map tv))) :
    Calls Try.prog 20 #[.agg #[.int .i64 code, .slice E em ec, .slice G gm gc], .agg #[.int .i64 code, .slice E' em ec', .slice G' gm gc']] w fun e w' => e = .returned (.bool true) ∧ Below w.heap.size w w' := by
  have HBY := Lib.hid hb
  clear hb
  have hb0 := ((Below.refl w.heap.size w).alloc (Nat.le_refl _) (.cells #[.int .i64 code, .slice E em ec, .slice G gm gc] 47)).alloc (by simp) (.cells #[.int .i64 code, .slice E' em ec', .slice G' gm gc'] 47)
  have RE1 := Lib.hid (RE.out.later hb0)
  have RE2 := Lib.hid (RE'.out.later hb0)
  have RG1 := Lib.hid (RG.out.later hb0)
  have RG2 := Lib.hid (RG'.out.later hb0)
  have NB := Lib.hid hb0
  clear hb0
  go_enter Try.func20, Try.ntmps20
  go_wp2_with (first
    | (go_at_call 31; refine (same_bytes E E' ec ec' em em data data _ HBY.out HBY.out RE1.out RE2.out).mono ?_; rintro e w1 ⟨rfl, rfl⟩; rw [bytes_true])
    | (go_at_call 37; refine (texts_same G G' gm gc gc' ss _ RG1 RG2 hg).mono ?_; rintro e w2 ⟨rfl, hb⟩; have NB := Lib.hid (bel_trans NB.out hb); clear hb))
  go_ret
  exact ⟨rfl, NB.out⟩
end Go.Proofs.Ytmamdnikjfmenaa
