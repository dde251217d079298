/-
  New.
-/
import Derived.Test.YtmamdnikjfmenaaClW2
import Derived.Test.YtmamdnikjfmenaaLibS
namespace Go.Proofs.Ytmamdnikjfmenaa
open Go.RowKit
set_option linter.unusedVariables false
section
variable {c : Cal} {N D : Option Addr} {n m nc dc : Nat} {w : World}
theorem may_yes (h : Hid (CalIn w c n N nc m D dc)) (hm : May c) :
    Calls Try.prog 22 #[.agg (c.cs n N nc m D dc)] w fun e w' => e = .returned (.bool true) ∧ Below w.heap.size w w' :=
  (may_any h).mono fun e w' ⟨⟨b, he, h1, h2⟩, hb⟩ => ⟨by cases b with | true => exact he | false => exact absurd hm (h2 rfl), hb⟩
theorem may_no (h : Hid (CalIn w c n N nc m D dc)) (hm : ¬ May c) :
    Calls Try.prog 22 #[.agg (c.cs n N nc m D dc)] w fun e w' => e = .returned (.bool false) ∧ Below w.heap.size w w' :=
  (may_any h).mono fun e w' ⟨⟨b, he, h1, h2⟩, hb⟩ => ⟨by cases b with | false => exact he | true => exact absurd (h1 rfl) hm, hb⟩
end
theorem Try.sizeC : (Try.prog.info? 40).map (·.size) = some 12 := by kernel_rfl
/-- A caller that is answered: its cells, and what they reach. -/
def CalRet (c : Cal) (v : Value) (w' : World) : Prop := ∃ n N nc m D dc, v = .agg (c.cs n N nc m D dc) ∧ CalIn w' c n N nc m D dc
def Cal.new (id : Nat) (nodes : List Int) (retry limit : Int) : Cal := ⟨id, nodes, 0, 0, 0, false, 0, ⟨#[]⟩, [], 0, retry, limit⟩
def Cal.zero : Cal := ⟨0, [], 0, 0, 0, false, 0, ⟨#[]⟩, [], 0, 0, 0⟩
theorem cal_zero_in (w : World) : CalIn w Cal.zero 0 none 0 0 none 0 := ⟨rfl, Reads.none_, Nat.le_refl _, by unfold maxLen; omega, rfl, Reads.none_, Nat.le_refl _, by unfold maxLen; omega, fun x hx => by cases hx⟩
def RetNew (c : Cal) (code : Int) (w : World) (e : Ending) (w' : World) : Prop := ∃ v, e = .returned (.tuple #[v, .int .i64 code]) ∧ CalRet c v w' ∧ Below w.heap.size w w'
def RetMade (c : Cal) (n : Nat) (nodes : List Int) (w : World) (e : Ending) (w' : World) : Prop := ∃ N nc, e = .returned (.tuple #[.agg (c.cs n N nc 0 none 0), .int .i64 0]) ∧ n ≤ nc ∧ nc ≤ maxLen ∧ w'.ownsRow w.heap.size 3 1 (.slice N n nc) n (nodes.map iv) ∧ Below w.heap.size w w'
theorem new_in {w : World} {id : Nat} {nodes : List Int} {retry limit : Int} {n nc : Nat} {N : Option Addr} (hl : nodes.length = n) (hr : Reads w w.heap.size 1 N n (nodes.map iv)) (h1 : n ≤ nc) (h2 : nc ≤ maxLen) : CalIn w (Cal.new id nodes retry limit) n N nc 0 none 0 :=
  ⟨hl, hr, h1, h2, rfl, Reads.none_, Nat.le_refl _, by unfold maxLen; omega, fun x hx => by cases hx⟩
theorem iv_one (xs : List Int) : ∀ u ∈ xs.map iv, u.oneCell' = true := by
  intro u hu
  obtain ⟨x, _, rfl⟩ := List.mem_map.1 hu
  rfl
set_option maxRecDepth 100000 in
set_option maxHeartbeats 1000000 in
theorem new_yes (id : Nat) (A : Option Addr) (n cap : Nat) (nodes : List Int) (retry limit : Int) (w : World) (hl : nodes.length = n) (HR : Hid (Reads w w.heap.size 1 A n (nodes.map iv))) (hm : n * 8 ≤ 140737488355328) (hid : id < 18446744073709551616) (hmay : May (Cal.new id nodes retry limit)) :
    Calls Try.prog 8 #[.int .u64 id, .slice A n cap, .int .i64 retry, .int .i64 limit] w (RetMade (Cal.new id nodes retry limit) n nodes w) := by
  have HM := Lib.hid hmay
  have HL := Lib.hid hl
  clear hmay hl
  have one := Lib.hid (iv_one nodes)
  have hb0 := (Below.refl w.heap.size w).alloc (Nat.le_refl _) (.cells #[.int .u64 0, .slice none 0 0, .int .i64 0, .int .i64 0, .int .u64 0, .bool false, .int .i64 0, .string ⟨#[]⟩, .slice none 0 0, .int .i64 0, .int .i64 0, .int .i64 0] 40)
  have HB0 := Lib.hid hb0
  have HR0 := Lib.hid (HR.out.later hb0)
  clear hb0
  go_enter Try.func8, Try.ntmps8
  go_wp2_with (first
    | (go_at_call 21; refine (clone_ints A n cap (nodes.map iv) _ HR0 one hm).mono ?_; rintro e w1 ⟨N, nc, rfl, q1, q2, q3, hb⟩; have HO := Lib.hid q3; have H3 := Lib.hid (Reads.of_own q3); have HB1 := Lib.hid hb; clear q3 hb)
    | (go_at_call 22; have hin := Lib.hid (new_in (id := id) (retry := retry) (limit := limit) HL.out (H3.out.later ((Below.refl _ _).alloc (Nat.le_refl _) (.cells #[.int .u64 id, .slice N n nc, .int .i64 0, .int .i64 0, .int .u64 0, .bool false, .int .i64 0, .string ⟨#[]⟩, .slice none 0 0, .int .i64 0, .int .i64 retry, .int .i64 limit] 40))) q1 q2); refine (may_yes (c := Cal.new id nodes retry limit) hin HM.out).mono ?_; rintro e w2 ⟨rfl, hb⟩; have HB2 := Lib.hid hb; have hz := Lib.hid ((((Blk.new w 40 #[.int .u64 0, .slice none 0 0, .int .i64 0, .int .i64 0, .int .u64 0, .bool false, .int .i64 0, .string ⟨#[]⟩, .slice none 0 0, .int .i64 0, .int .i64 0, .int .i64 0]).below HB1.out (by simp)).alloc (.cells #[.int .u64 id, .slice N n nc, .int .i64 0, .int .i64 0, .int .u64 0, .bool false, .int .i64 0, .string ⟨#[]⟩, .slice none 0 0, .int .i64 0, .int .i64 retry, .int .i64 limit] 40)).below hb (by have := HB1.out.size; simp at this ⊢; omega)); have hc := (Blk.new w1 40 #[.int .u64 id, .slice N n nc, .int .i64 0, .int .i64 0, .int .u64 0, .bool false, .int .i64 0, .string ⟨#[]⟩, .slice none 0 0, .int .i64 0, .int .i64 retry, .int .i64 limit]).below hb (by simp); have c0 := hc.cell 0; have c1 := hc.cell 1; have c2 := hc.cell 2; have c3 := hc.cell 3; have c4 := hc.cell 4; have c5 := hc.cell 5; have c6 := hc.cell 6; have c7 := hc.cell 7; have c8 := hc.cell 8; have c9 := hc.cell 9; have c10 := hc.cell 10; have c11 := hc.cell 11; clear hb hc; simp only [List.getElem?_toArray, List.getElem?_cons_zero, List.getElem?_cons_succ] at c0 c1 c2 c3 c4 c5 c6 c7 c8 c9 c10 c11)
    | (refine wpl_store_blk rfl 40 (.tmp 8) (.tmp 21) rfl w.heap.size 40 _ #[.int .u64 id, .slice N n nc, .int .i64 0, .int .i64 0, .int .u64 0, .bool false, .int .i64 0, .string ⟨#[]⟩, .slice none 0 0, .int .i64 0, .int .i64 retry, .int .i64 limit] rfl rfl hz.out rfl Try.sizeC rfl ?_; intro w3 hB3 hO3))
  have hbel := ((HB0.out.trans (HB1.out.mono (by simp))).alloc (by have := HB1.out.size; simp at this ⊢; omega) (.cells #[.int .u64 id, .slice N n nc, .int .i64 0, .int .i64 0, .int .u64 0, .bool false, .int .i64 0, .string ⟨#[]⟩, .slice none 0 0, .int .i64 0, .int .i64 retry, .int .i64 limit] 40)).trans (HB2.out.mono (by have := HB1.out.size; simp at this ⊢; omega))
  have hne := own_up HO.out (g := w.heap.size) (by simp)
  have ho3 := hO3.out.own (own_below (HO.out.alloc (.cells #[.int .u64 id, .slice N n nc, .int .i64 0, .int .i64 0, .int .u64 0, .bool false, .int .i64 0, .string ⟨#[]⟩, .slice none 0 0, .int .i64 0, .int .i64 retry, .int .i64 limit] 40)) HB2.out) hne
  refine bodyPost_ret (v := .tuple #[.agg ((Cal.new id nodes retry limit).cs n N nc 0 none 0), .int .i64 0]) (res_ct Try.results8 rfl rfl (load_blk hB3.out Try.underlying40 rfl Try.sizeC)) rfl ⟨N, nc, rfl, q1, q2, own_base ho3 (by simp), hbel.trans (hO3.out.below (Nat.le_refl _))⟩
set_option maxRecDepth 100000 in
set_option maxHeartbeats 1000000 in
theorem new_no (id : Nat) (A : Option Addr) (n cap : Nat) (nodes : List Int) (retry limit : Int) (w : World) (hl : nodes.length = n) (HR : Hid (Reads w w.heap.size 1 A n (nodes.map iv))) (hm : n * 8 ≤ 140737488355328) (hid : id < 18446744073709551616) (hmay : ¬ May (Cal.new id nodes retry limit)) :
    Calls Try.prog 8 #[.int .u64 id, .slice A n cap, .int .i64 retry, .int .i64 limit] w (RetNew Cal.zero 2 w) := by
  have HM := Lib.hid hmay
  have HL := Lib.hid hl
  clear hmay hl
  have one := Lib.hid (iv_one nodes)
  have hb0 := (Below.refl w.heap.size w).alloc (Nat.le_refl _) (.cells #[.int .u64 0, .slice none 0 0, .int .i64 0, .int .i64 0, .int .u64 0, .bool false, .int .i64 0, .string ⟨#[]⟩, .slice none 0 0, .int .i64 0, .int .i64 0, .int .i64 0] 40)
  have HB0 := Lib.hid hb0
  have HR0 := Lib.hid (HR.out.later hb0)
  clear hb0
  go_enter Try.func8, Try.ntmps8
  go_wp2_with (first
    | (go_at_call 21; refine (clone_ints A n cap (nodes.map iv) _ HR0 one hm).mono ?_; rintro e w1 ⟨N, nc, rfl, q1, q2, q3, hb⟩; have HO := Lib.hid q3; have H3 := Lib.hid (Reads.of_own q3); have HB1 := Lib.hid hb; clear q3 hb)
    | (go_at_call 22; have hin := Lib.hid (new_in (id := id) (retry := retry) (limit := limit) HL.out (H3.out.later ((Below.refl _ _).alloc (Nat.le_refl _) (.cells #[.int .u64 id, .slice N n nc, .int .i64 0, .int .i64 0, .int .u64 0, .bool false, .int .i64 0, .string ⟨#[]⟩, .slice none 0 0, .int .i64 0, .int .i64 retry, .int .i64 limit] 40))) q1 q2); refine (may_no (c := Cal.new id nodes retry limit) hin HM.out).mono ?_; rintro e w2 ⟨rfl, hb⟩; have HB2 := Lib.hid hb; have hz := Lib.hid ((((Blk.new w 40 #[.int .u64 0, .slice none 0 0, .int .i64 0, .int .i64 0, .int .u64 0, .bool false, .int .i64 0, .string ⟨#[]⟩, .slice none 0 0, .int .i64 0, .int .i64 0, .int .i64 0]).below HB1.out (by simp)).alloc (.cells #[.int .u64 id, .slice N n nc, .int .i64 0, .int .i64 0, .int .u64 0, .bool false, .int .i64 0, .string ⟨#[]⟩, .slice none 0 0, .int .i64 0, .int .i64 retry, .int .i64 limit] 40)).below hb (by have := HB1.out.size; simp at this ⊢; omega)); have hc := (Blk.new w1 40 #[.int .u64 id, .slice N n nc, .int .i64 0, .int .i64 0, .int .u64 0, .bool false, .int .i64 0, .string ⟨#[]⟩, .slice none 0 0, .int .i64 0, .int .i64 retry, .int .i64 limit]).below hb (by simp); have c0 := hc.cell 0; have c1 := hc.cell 1; have c2 := hc.cell 2; have c3 := hc.cell 3; have c4 := hc.cell 4; have c5 := hc.cell 5; have c6 := hc.cell 6; have c7 := hc.cell 7; have c8 := hc.cell 8; have c9 := hc.cell 9; have c10 := hc.cell 10; have c11 := hc.cell 11; clear hb hc; simp only [List.getElem?_toArray, List.getElem?_cons_zero, List.getElem?_cons_succ] at c0 c1 c2 c3 c4 c5 c6 c7 c8 c9 c10 c11)
    | (refine wpl_store_blk rfl 40 (.tmp 8) (.tmp 20) rfl w.heap.size 40 _ #[.int .u64 0, .slice none 0 0, .int .i64 0, .int .i64 0, .int .u64 0, .bool false, .int .i64 0, .string ⟨#[]⟩, .slice none 0 0, .int .i64 0, .int .i64 0, .int .i64 0] rfl rfl hz.out rfl Try.sizeC rfl ?_; intro w3 hB3 hO3))
  have hbel := ((HB0.out.trans (HB1.out.mono (by simp))).alloc (by have := HB1.out.size; simp at this ⊢; omega) (.cells #[.int .u64 id, .slice N n nc, .int .i64 0, .int .i64 0, .int .u64 0, .bool false, .int .i64 0, .string ⟨#[]⟩, .slice none 0 0, .int .i64 0, .int .i64 retry, .int .i64 limit] 40)).trans (HB2.out.mono (by have := HB1.out.size; simp at this ⊢; omega))
  refine bodyPost_ret (v := .tuple #[.agg (Cal.zero.cs 0 none 0 0 none 0), .int .i64 2]) (res_ct Try.results8 rfl rfl (load_blk hB3.out Try.underlying40 rfl Try.sizeC)) rfl ⟨_, rfl, ⟨0, none, 0, 0, none, 0, rfl, cal_zero_in _⟩, hbel.trans (hO3.out.below (Nat.le_refl _))⟩
end Go.Proofs.Ytmamdnikjfmenaa
