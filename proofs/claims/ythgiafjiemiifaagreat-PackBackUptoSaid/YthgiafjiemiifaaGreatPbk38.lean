/-
  THE PROGRAM'S WRITER: rows of intents, sessions, wastes. (printed by gen_pas8.py). (joined out of PaS8 by shake.py)
-/
import Derived.Test.YthgiafjiemiifaaGreatPbk37
section
namespace Go.Proofs.YthgiafjiemiifaaGreat
open Go.RowKit OctMath
set_option linter.unusedVariables false
set_option maxRecDepth 100000 in
set_option maxHeartbeats 4000000 in
theorem sh_intents (H : Nat → Prop) (g : Nat) (xs : List Nat) (A : Option Addr) (n cap : Nat) (l : List IM) (w : World) (b : Nat) (HBX : Hid (Blk w b 84 #[.pointer (some ⟨g, 0, none⟩)])) (hHb : Hid (H b)) (hp : Hid (Sh H g xs w)) (hS : Hid (Safe H g w)) (hL : Hid (Reads w w.heap.size 9 A n (l.flatMap imCs))) (hH : Hid (0 < n → ∀ ad, A = some ad → H ad.block)) (hn : Hid (l.length = n)) (hn2 : n ≤ 1048576) (hI : Hid (∀ m ∈ l, InteOk m.x ∧ Reads w w.heap.size 1 m.A m.x.obj.nodes.length (m.x.obj.nodes.map iv) ∧ (0 < m.x.obj.nodes.length → ∀ ad, m.A = some ad → H ad.block))) (hl : xs.length + 12094820843530 ≤ 70000000000000) :
    Calls Tryz.prog 75 #[.pointer (some ⟨g, 0, none⟩), .slice A n cap, .func (.func 76) #[] #[.pointer (some ⟨b, 0, none⟩)]] w (RetW H g (xs ++ pList pIntent (l.map (·.x))) w) := by
  have e1 : IntKind.u64.wrap (n : Int) = (n : Int) := by rw [IntKind.wrap_u64]; omega
  have HC := Lib.hid (sh_number H g xs n w hp hS (by omega) (by omega))
  have HN10 := Lib.hid (putN_len10 (n := n) (by omega))
  go_enter Tryz.func75, Tryz.ntmps75
  go_wp2_with fail
  refine HC.out.mono ?_
  rintro e w1 ⟨rfl, h1, h2⟩
  have HP1 := Lib.hid h1
  have HK1 := Lib.hid h2
  clear h1 h2 HC e1
  go_wp2
  go_loopw [7, 15] (fun vx vi wr => ∃ (k : Nat) (ys : List Nat), k ≤ n ∧ vi = .int .i64 k ∧ Hid (ys = xs ++ (putN n ++ (l.take k).flatMap fun m => pIntent m.x)) ∧ Hid (Sh H g ys wr) ∧ Hid (Keep H w wr)) (fun _ vi _ => n - (intOf vi).toNat)
  case atStart => exact ⟨0, xs ++ putN n, by omega, rfl, Lib.hid (by simp), HP1, HK1⟩
  case round =>
    obtain ⟨k, ys, hk, rfl, hy, hs, hkp⟩ := hrel
    by_cases hlt : k < n
    · have d1 : decide (k < n) = true := decide_eq_true hlt
      have hkl : k < l.length := by have := hn.out; omega
      have hyl : ys.length ≤ xs.length + 10 + 11534520 * k := by
        have h1 := flat_len (fun m : IM => pIntent m.x) 11534520 (l.take k) (fun m hm => pIntent_len (hI.out m (List.mem_of_mem_take hm)).1)
        rw [List.length_take] at h1
        have h3 := HN10.out
        rw [hy.out, List.length_append, List.length_append]
        have : 11534520 * min k l.length ≤ 11534520 * k := Nat.mul_le_mul_left _ (Nat.min_le_left _ _)
        omega
      have HYB := Lib.hid (show ys.length + 11534520 ≤ 70000000000000 from by omega)
      clear hyl
      have hm0 := List.getElem_mem hkl
      have hy2 : ys ++ pIntent (l[k]).x = xs ++ (putN n ++ (l.take (k + 1)).flatMap fun m => pIntent m.x) := by
        rw [hy.out, List.take_succ_eq_append_getElem hkl, List.flatMap_append]
        simp only [List.append_assoc, List.flatMap_cons, List.flatMap_nil, List.append_nil]
      obtain ⟨ad, hA, hbl, hc⟩ := (hkp.out.reads hL.out hH.out).2 (by omega : 0 < n)
      have hrow := row_cells (cells := imCs) (size := 9) (fun _ => rfl) hc hkl
      obtain ⟨m, hm⟩ : ∃ m, l[k] = m := ⟨_, rfl⟩
      rw [hm] at hm0 hrow hy2
      have HROW := Lib.hid hrow
      have HY2 := Lib.hid hy2
      have HM := Lib.hid (hI.out m hm0)
      subst hA
      clear hm0 hrow hy2 hm hc hbl
      go_wp2_with (first
        | (refine wpl_load_at rfl 65 (.tmp 17) rfl (ad.add (k * 9)) (#[.string (strOf m.x.obj.key), .int .u64 (m.x.obj.version : Int), .int .i64 m.x.obj.size, .int .u32 (m.x.obj.sum : Int), .int .i64 m.x.obj.group, .int .u64 (m.x.obj.epoch : Int), .slice m.A m.x.obj.nodes.length m.c, .int .u64 (m.x.client : Int), .int .u64 (m.x.seq : Int)] : Array Value).toList _ rfl HROW.out Tryz.underlying65 rfl Tryz.sizeIn ?_)
        | (refine wpl_store_blk rfl 65 (.tmp 7) (.tmp 18) rfl wr.heap.size 65 #[.string ⟨#[]⟩, .int .u64 0, .int .i64 0, .int .u32 0, .int .i64 0, .int .u64 0, .slice none 0 0, .int .u64 0, .int .u64 0] #[.string (strOf m.x.obj.key), .int .u64 (m.x.obj.version : Int), .int .i64 m.x.obj.size, .int .u32 (m.x.obj.sum : Int), .int .i64 m.x.obj.group, .int .u64 (m.x.obj.epoch : Int), .slice m.A m.x.obj.nodes.length m.c, .int .u64 (m.x.client : Int), .int .u64 (m.x.seq : Int)] rfl rfl (Blk.new wr _ _) rfl Tryz.sizeIn rfl ?_; intro wb hB1 hO1
           have hsb : Below wr.heap.size wr wb := ((Below.refl _ _).alloc (Nat.le_refl _) _).trans (hO1.out.below (Nat.le_refl _))
           have HS5 := Lib.hid (hs.out.later hsb)
           have HF5 := Lib.hid ((hS.out.keep hkp.out).keep (Keep.below hsb))
           have HKA0 := Lib.hid (hkp.out.trans (Keep.below hsb))
           have HB5 := Lib.hid ((hkp.out.blk HBX.out hHb.out).below hsb (hkp.out.blk HBX.out hHb.out).lt)
           clear hsb hO1)
        | (refine wpl_load_blk rfl 65 (.tmp 7) rfl wr.heap.size 65 #[.string (strOf m.x.obj.key), .int .u64 (m.x.obj.version : Int), .int .i64 m.x.obj.size, .int .u32 (m.x.obj.sum : Int), .int .i64 m.x.obj.group, .int .u64 (m.x.obj.epoch : Int), .slice m.A m.x.obj.nodes.length m.c, .int .u64 (m.x.client : Int), .int .u64 (m.x.seq : Int)] _ rfl hB1.out Tryz.underlying65 rfl Tryz.sizeIn ?_)
        | (go_at_call 76; refine (sh_meta1 H g ys m.A m.c m.x b wb HS5 HF5 HB5 hHb (Lib.hid (HKA0.out.reads HM.out.2.1 HM.out.2.2)) (Lib.hid HM.out.2.2) HM.out.1 HYB.out).mono ?_; rintro e w3 ⟨rfl, h3⟩; have HR := Lib.hid h3; clear h3))
      exact ⟨⟨k + 1, _, by omega, by go_num, HY2, Lib.hid HR.out.1, Lib.hid (HKA0.out.trans HR.out.2)⟩, by simp [intOf]; omega⟩
    · obtain rfl : k = n := by omega
      go_wp2
      go_end0
      refine ⟨rfl, ?_, hkp.out⟩
      have h := hy.out
      rw [List.take_of_length_le (by rw [hn.out]; exact Nat.le_refl _)] at h
      have e : xs ++ pList pIntent (l.map (·.x)) = ys := by
        rw [h]
        unfold pList
        rw [List.length_map, hn.out, List.flatMap_map]
      rw [e]
      exact hs.out
def seCs (m : SesT) : List Value := (#[.int .u64 (m.client : Int), .int .u64 (m.seq : Int), .bool m.opn, .int .u64 (m.version : Int), .int .i64 m.code] : Array Value).toList
def waCs (m : WasT) : List Value := (#[.int .u64 (m.id.ver : Int), .int .i64 m.id.idx, .int .u64 (m.id.ep : Int), .int .i64 m.node] : Array Value).toList
set_option maxRecDepth 100000 in
set_option maxHeartbeats 4000000 in
theorem sh_sessions (H : Nat → Prop) (g : Nat) (xs : List Nat) (A : Option Addr) (n cap : Nat) (l : List SesT) (w : World) (b : Nat) (HBX : Hid (Blk w b 84 #[.pointer (some ⟨g, 0, none⟩)])) (hHb : Hid (H b)) (hp : Hid (Sh H g xs w)) (hS : Hid (Safe H g w)) (hL : Hid (Reads w w.heap.size 5 A n (l.flatMap seCs))) (hH : Hid (0 < n → ∀ ad, A = some ad → H ad.block)) (hn : Hid (l.length = n)) (hn2 : n ≤ 1048576) (hI : Hid (∀ m ∈ l, SesOk m)) (hl : xs.length + 52428810 ≤ 70000000000000) :
    Calls Tryz.prog 77 #[.pointer (some ⟨g, 0, none⟩), .slice A n cap, .func (.func 78) #[] #[.pointer (some ⟨b, 0, none⟩)]] w (RetW H g (xs ++ pList pSes l) w) := by
  have e1 : IntKind.u64.wrap (n : Int) = (n : Int) := by rw [IntKind.wrap_u64]; omega
  have HC := Lib.hid (sh_number H g xs n w hp hS (by omega) (by omega))
  have HN10 := Lib.hid (putN_len10 (n := n) (by omega))
  go_enter Tryz.func77, Tryz.ntmps77
  go_wp2_with fail
  refine HC.out.mono ?_
  rintro e w1 ⟨rfl, h1, h2⟩
  have HP1 := Lib.hid h1
  have HK1 := Lib.hid h2
  clear h1 h2 HC e1
  go_wp2
  go_loopw [7, 15] (fun vx vi wr => ∃ (k : Nat) (ys : List Nat), k ≤ n ∧ vi = .int .i64 k ∧ Hid (ys = xs ++ (putN n ++ (l.take k).flatMap fun m => pSes m)) ∧ Hid (Sh H g ys wr) ∧ Hid (Keep H w wr)) (fun _ vi _ => n - (intOf vi).toNat)
  case atStart => exact ⟨0, xs ++ putN n, by omega, rfl, Lib.hid (by simp), HP1, HK1⟩
  case round =>
    obtain ⟨k, ys, hk, rfl, hy, hs, hkp⟩ := hrel
    by_cases hlt : k < n
    · have d1 : decide (k < n) = true := decide_eq_true hlt
      have hkl : k < l.length := by have := hn.out; omega
      have hyl : ys.length ≤ xs.length + 10 + 50 * k := by
        have h1 := flat_len (fun m : SesT => pSes m) 50 (l.take k) (fun m hm => pSes_len (hI.out m (List.mem_of_mem_take hm)))
        rw [List.length_take] at h1
        have h3 := HN10.out
        rw [hy.out, List.length_append, List.length_append]
        have : 50 * min k l.length ≤ 50 * k := Nat.mul_le_mul_left _ (Nat.min_le_left _ _)
        omega
      have HYB := Lib.hid (show ys.length + 50 ≤ 70000000000000 from by omega)
      clear hyl
      have hm0 := List.getElem_mem hkl
      have hy2 : ys ++ pSes (l[k]) = xs ++ (putN n ++ (l.take (k + 1)).flatMap fun m => pSes m) := by
        rw [hy.out, List.take_succ_eq_append_getElem hkl, List.flatMap_append]
        simp only [List.append_assoc, List.flatMap_cons, List.flatMap_nil, List.append_nil]
      obtain ⟨ad, hA, hbl, hc⟩ := (hkp.out.reads hL.out hH.out).2 (by omega : 0 < n)
      have hrow := row_cells (cells := seCs) (size := 5) (fun _ => rfl) hc hkl
      obtain ⟨m, hm⟩ : ∃ m, l[k] = m := ⟨_, rfl⟩
      rw [hm] at hm0 hrow hy2
      have HROW := Lib.hid hrow
      have HY2 := Lib.hid hy2
      have HM := Lib.hid (hI.out m hm0)
      subst hA
      clear hm0 hrow hy2 hm hc hbl
      go_wp2_with (first
        | (refine wpl_load_at rfl 132 (.tmp 17) rfl (ad.add (k * 5)) (#[.int .u64 (m.client : Int), .int .u64 (m.seq : Int), .bool m.opn, .int .u64 (m.version : Int), .int .i64 m.code] : Array Value).toList _ rfl HROW.out Tryz.underlying132 rfl Tryz.sizeSe ?_)
        | (refine wpl_store_blk rfl 132 (.tmp 7) (.tmp 18) rfl wr.heap.size 132 #[.int .u64 0, .int .u64 0, .bool false, .int .u64 0, .int .i64 0] #[.int .u64 (m.client : Int), .int .u64 (m.seq : Int), .bool m.opn, .int .u64 (m.version : Int), .int .i64 m.code] rfl rfl (Blk.new wr _ _) rfl Tryz.sizeSe rfl ?_; intro wb hB1 hO1
           have hsb : Below wr.heap.size wr wb := ((Below.refl _ _).alloc (Nat.le_refl _) _).trans (hO1.out.below (Nat.le_refl _))
           have HS5 := Lib.hid (hs.out.later hsb)
           have HF5 := Lib.hid ((hS.out.keep hkp.out).keep (Keep.below hsb))
           have HKA0 := Lib.hid (hkp.out.trans (Keep.below hsb))
           have HB5 := Lib.hid ((hkp.out.blk HBX.out hHb.out).below hsb (hkp.out.blk HBX.out hHb.out).lt)
           clear hsb hO1)
        | (refine wpl_load_blk rfl 132 (.tmp 7) rfl wr.heap.size 132 #[.int .u64 (m.client : Int), .int .u64 (m.seq : Int), .bool m.opn, .int .u64 (m.version : Int), .int .i64 m.code] _ rfl hB1.out Tryz.underlying132 rfl Tryz.sizeSe ?_)
        | (go_at_call 78; refine (sh_meta2 H g ys m b wb HS5 HF5 HB5 hHb HM.out HYB.out).mono ?_; rintro e w3 ⟨rfl, h3⟩; have HR := Lib.hid h3; clear h3))
      exact ⟨⟨k + 1, _, by omega, by go_num, HY2, Lib.hid HR.out.1, Lib.hid (HKA0.out.trans HR.out.2)⟩, by simp [intOf]; omega⟩
    · obtain rfl : k = n := by omega
      go_wp2
      go_end0
      refine ⟨rfl, ?_, hkp.out⟩
      have h := hy.out
      rw [List.take_of_length_le (by rw [hn.out]; exact Nat.le_refl _)] at h
      have e : xs ++ pList pSes l = ys := by
        rw [h]
        unfold pList
        rw [hn.out]
      rw [e]
      exact hs.out
set_option maxRecDepth 100000 in
set_option maxHeartbeats 4000000 in
theorem sh_wastes (H : Nat → Prop) (g : Nat) (xs : List Nat) (A : Option Addr) (n cap : Nat) (l : List WasT) (w : World) (b : Nat) (HBX : Hid (Blk w b 84 #[.pointer (some ⟨g, 0, none⟩)])) (hHb : Hid (H b)) (hp : Hid (Sh H g xs w)) (hS : Hid (Safe H g w)) (hL : Hid (Reads w w.heap.size 4 A n (l.flatMap waCs))) (hH : Hid (0 < n → ∀ ad, A = some ad → H ad.block)) (hn : Hid (l.length = n)) (hn2 : n ≤ 1048576) (hI : Hid (∀ m ∈ l, WasOk m)) (hl : xs.length + 41943050 ≤ 70000000000000) :
    Calls Tryz.prog 80 #[.pointer (some ⟨g, 0, none⟩), .slice A n cap, .func (.func 81) #[] #[.pointer (some ⟨b, 0, none⟩)]] w (RetW H g (xs ++ pList pWas l) w) := by
  have e1 : IntKind.u64.wrap (n : Int) = (n : Int) := by rw [IntKind.wrap_u64]; omega
  have HC := Lib.hid (sh_number H g xs n w hp hS (by omega) (by omega))
  have HN10 := Lib.hid (putN_len10 (n := n) (by omega))
  go_enter Tryz.func80, Tryz.ntmps80
  go_wp2_with fail
  refine HC.out.mono ?_
  rintro e w1 ⟨rfl, h1, h2⟩
  have HP1 := Lib.hid h1
  have HK1 := Lib.hid h2
  clear h1 h2 HC e1
  go_wp2
  go_loopw [7, 15] (fun vx vi wr => ∃ (k : Nat) (ys : List Nat), k ≤ n ∧ vi = .int .i64 k ∧ Hid (ys = xs ++ (putN n ++ (l.take k).flatMap fun m => pWas m)) ∧ Hid (Sh H g ys wr) ∧ Hid (Keep H w wr)) (fun _ vi _ => n - (intOf vi).toNat)
  case atStart => exact ⟨0, xs ++ putN n, by omega, rfl, Lib.hid (by simp), HP1, HK1⟩
  case round =>
    obtain ⟨k, ys, hk, rfl, hy, hs, hkp⟩ := hrel
    by_cases hlt : k < n
    · have d1 : decide (k < n) = true := decide_eq_true hlt
      have hkl : k < l.length := by have := hn.out; omega
      have hyl : ys.length ≤ xs.length + 10 + 40 * k := by
        have h1 := flat_len (fun m : WasT => pWas m) 40 (l.take k) (fun m hm => pWas_len (hI.out m (List.mem_of_mem_take hm)))
        rw [List.length_take] at h1
        have h3 := HN10.out
        rw [hy.out, List.length_append, List.length_append]
        have : 40 * min k l.length ≤ 40 * k := Nat.mul_le_mul_left _ (Nat.min_le_left _ _)
        omega
      have HYB := Lib.hid (show ys.length + 40 ≤ 70000000000000 from by omega)
      clear hyl
      have hm0 := List.getElem_mem hkl
      have hy2 : ys ++ pWas (l[k]) = xs ++ (putN n ++ (l.take (k + 1)).flatMap fun m => pWas m) := by
        rw [hy.out, List.take_succ_eq_append_getElem hkl, List.flatMap_append]
        simp only [List.append_assoc, List.flatMap_cons, List.flatMap_nil, List.append_nil]
      obtain ⟨ad, hA, hbl, hc⟩ := (hkp.out.reads hL.out hH.out).2 (by omega : 0 < n)
      have hrow := row_cells (cells := waCs) (size := 4) (fun _ => rfl) hc hkl
      obtain ⟨m, hm⟩ : ∃ m, l[k] = m := ⟨_, rfl⟩
      rw [hm] at hm0 hrow hy2
      have HROW := Lib.hid hrow
      have HY2 := Lib.hid hy2
      have HM := Lib.hid (hI.out m hm0)
      subst hA
      clear hm0 hrow hy2 hm hc hbl
      go_wp2_with (first
        | (refine wpl_load_at rfl 136 (.tmp 17) rfl (ad.add (k * 4)) (#[.int .u64 (m.id.ver : Int), .int .i64 m.id.idx, .int .u64 (m.id.ep : Int), .int .i64 m.node] : Array Value).toList _ rfl HROW.out Tryz.underlying136 rfl Tryz.sizeWa ?_)
        | (refine wpl_store_blk rfl 136 (.tmp 7) (.tmp 18) rfl wr.heap.size 136 #[.int .u64 0, .int .i64 0, .int .u64 0, .int .i64 0] #[.int .u64 (m.id.ver : Int), .int .i64 m.id.idx, .int .u64 (m.id.ep : Int), .int .i64 m.node] rfl rfl (Blk.new wr _ _) rfl Tryz.sizeWa rfl ?_; intro wb hB1 hO1
           have hsb : Below wr.heap.size wr wb := ((Below.refl _ _).alloc (Nat.le_refl _) _).trans (hO1.out.below (Nat.le_refl _))
           have HS5 := Lib.hid (hs.out.later hsb)
           have HF5 := Lib.hid ((hS.out.keep hkp.out).keep (Keep.below hsb))
           have HKA0 := Lib.hid (hkp.out.trans (Keep.below hsb))
           have HB5 := Lib.hid ((hkp.out.blk HBX.out hHb.out).below hsb (hkp.out.blk HBX.out hHb.out).lt)
           clear hsb hO1)
        | (refine wpl_load_blk rfl 136 (.tmp 7) rfl wr.heap.size 136 #[.int .u64 (m.id.ver : Int), .int .i64 m.id.idx, .int .u64 (m.id.ep : Int), .int .i64 m.node] _ rfl hB1.out Tryz.underlying136 rfl Tryz.sizeWa ?_)
        | (go_at_call 81; refine (sh_meta3 H g ys m b wb HS5 HF5 HB5 hHb HM.out HYB.out).mono ?_; rintro e w3 ⟨rfl, h3⟩; have HR := Lib.hid h3; clear h3))
      exact ⟨⟨k + 1, _, by omega, by go_num, HY2, Lib.hid HR.out.1, Lib.hid (HKA0.out.trans HR.out.2)⟩, by simp [intOf]; omega⟩
    · obtain rfl : k = n := by omega
      go_wp2
      go_end0
      refine ⟨rfl, ?_, hkp.out⟩
      have h := hy.out
      rw [List.take_of_length_le (by rw [hn.out]; exact Nat.le_refl _)] at h
      have e : xs ++ pList pWas l = ys := by
        rw [h]
        unfold pList
        rw [hn.out]
      rw [e]
      exact hs.out
end Go.Proofs.YthgiafjiemiifaaGreat
end
