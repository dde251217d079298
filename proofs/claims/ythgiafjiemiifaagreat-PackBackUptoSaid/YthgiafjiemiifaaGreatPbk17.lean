/-
  THE PROGRAM'S WRITER: numbers with a sign, flags, texts, rows of numbers. (printed by gen_pas2.py). (joined out of PaS2 by shake.py)
-/
import Derived.Test.YthgiafjiemiifaaGreatPbk16
import Derived.Test.YthgiafjiemiifaaGreatPbk11
section
namespace Go.Proofs.YthgiafjiemiifaaGreat
open Go.RowKit OctMath
set_option linter.unusedVariables false
theorem pInt_len {x : Int} (h : I64 x) : (pInt x).length ≤ 10 := putN_len10 (zz_lt h.1 h.2)
set_option maxRecDepth 100000 in
set_option maxHeartbeats 1000000 in
theorem sh_int (H : Nat → Prop) (g : Nat) (xs : List Nat) (n : Int) (w : World) (hp : Hid (Sh H g xs w)) (hS : Hid (Safe H g w)) (hn : I64 n) (hl : xs.length ≤ 70000000000000) :
    Calls Tryz.prog 51 #[.pointer (some ⟨g, 0, none⟩), .int .i64 n] w (RetW H g (xs ++ pInt n) w) := by
  obtain ⟨n1, n2⟩ := hn
  by_cases hs : 0 ≤ n
  · go_enter Tryz.func51, Tryz.ntmps51
    go_wp2_with fail
    rw [zzx_pos hs n2]
    refine (sh_number H g xs (zz n) w hp hS (zz_lt n1 n2) hl).mono ?_
    rintro e w1 ⟨rfl, h⟩
    have HH := Lib.hid h
    clear h
    go_wp2
    go_end0
    exact ⟨rfl, HH.out⟩
  · go_enter Tryz.func51, Tryz.ntmps51
    go_wp2_with fail
    rw [zzx_neg n1 (by omega)]
    refine (sh_number H g xs (zz n) w hp hS (zz_lt n1 n2) hl).mono ?_
    rintro e w1 ⟨rfl, h⟩
    have HH := Lib.hid h
    clear h
    go_wp2
    go_end0
    exact ⟨rfl, HH.out⟩
set_option maxRecDepth 100000 in
set_option maxHeartbeats 1000000 in
theorem sh_flag (H : Nat → Prop) (g : Nat) (xs : List Nat) (b : Bool) (w : World) (hp : Hid (Sh H g xs w)) (hS : Hid (Safe H g w)) (hl : xs.length ≤ 70000000000000) :
    Calls Tryz.prog 79 #[.pointer (some ⟨g, 0, none⟩), .bool b] w (RetW H g (xs ++ pFlag b) w) := by
  cases b with
  | true =>
    have HC := Lib.hid (sh_number H g xs 1 w hp hS (by omega) hl)
    rw [putN_small (by omega)] at HC
    go_enter Tryz.func79, Tryz.ntmps79
    go_wp2_with (go_at_call 50; refine HC.out.mono ?_; rintro e w1 ⟨rfl, h⟩; have HH := Lib.hid h; clear h)
    exact bodyPost_ret (results_none rfl _ _ _) rfl ⟨rfl, HH.out⟩
  | false =>
    have HC := Lib.hid (sh_number H g xs 0 w hp hS (by omega) hl)
    rw [putN_small (by omega)] at HC
    go_enter Tryz.func79, Tryz.ntmps79
    go_wp2_with (go_at_call 50; refine HC.out.mono ?_; rintro e w1 ⟨rfl, h⟩; have HH := Lib.hid h; clear h)
    go_end0
    exact ⟨rfl, HH.out⟩
set_option maxRecDepth 100000 in
set_option maxHeartbeats 1000000 in
theorem sh_text (H : Nat → Prop) (g : Nat) (xs : List Nat) (x : List Nat) (w : World) (hp : Hid (Sh H g xs w)) (hS : Hid (Safe H g w)) (hx : (∀ y ∈ x, y < 256) ∧ x.length ≤ 1048576) (hl : xs.length + 1048586 ≤ 70000000000000) :
    Calls Tryz.prog 87 #[.pointer (some ⟨g, 0, none⟩), .string (strOf x)] w (RetW H g (xs ++ pText x) w) := by
  obtain ⟨ii, hi1, hi2, hi3, hi4⟩ := info_parts Tryz.infoU8
  have HII := Lib.hid (And.intro hi1 (And.intro hi2 (And.intro hi3 hi4)))
  clear hi1 hi2 hi3 hi4
  have hsz := strOf_size x
  have hoc := octs_strOf x hx.1
  obtain ⟨key, hkey⟩ : ∃ key, strOf x = key := ⟨_, rfl⟩
  rw [hkey] at hsz hoc ⊢
  have hx2 := hx.2
  have HSZ := Lib.hid hsz
  have HOC := Lib.hid hoc
  have e1 : IntKind.u64.wrap (key.size : Int) = (key.size : Int) := by rw [IntKind.wrap_u64]; omega
  have HC := Lib.hid (sh_number H g xs key.size w hp hS (by omega) (by omega))
  rw [hsz] at HC e1
  have HL := Lib.hid (show (xs ++ putN x.length).length + x.length ≤ 70000000000000 from by rw [List.length_append]; have := putN_len10 (n := x.length) (by omega); omega)
  clear hkey hoc hx
  obtain ⟨ks, hks⟩ : ∃ ks : Nat, x.length = ks := ⟨_, rfl⟩
  have HKS := Lib.hid hks
  rw [hks] at HC e1 HL HSZ hsz hx2
  clear hks
  go_enter Tryz.func87, Tryz.ntmps87
  go_wp2_with fail
  refine HC.out.mono ?_
  rintro e w1 ⟨rfl, h1, h2⟩
  have HS1 := Lib.hid (hS.out.keep h2)
  have HK1 := Lib.hid h2
  obtain ⟨pv, hB, hO, hg, hh⟩ := h1.out
  have z0 : w1.cell? ⟨g, 0, none⟩ = some pv := hB.cell 0
  have HB := Lib.hid hB
  have HO := Lib.hid hO
  have PG := Lib.hid hg
  have HH := Lib.hid hh
  clear hB hO hg hh h1 h2 HC e1 hsz hx2
  go_wp2_with (at_builtin
               refine wpList_append_text _ rfl _ _ 22 9 rfl 0 5 ii Tryz.underlying22 Tryz.underlying9 HII.out.1 HII.out.2.1 HII.out.2.2.1 HII.out.2.2.2 pv (xs ++ putN ks).length ((xs ++ putN ks).map bv) rfl HO.out key rfl (by have := HL.out; have := HSZ.out; unfold maxLen; omega) (by have := HL.out; have := HSZ.out; omega) (Nat.zero_le _) ?_
               intro v2 w2 o2 g2 n2
               obtain ⟨PA, pn, pc, rfl⟩ : ∃ PA pn pc, v2 = .slice PA pn pc := (by obtain ⟨x, y, e, _⟩ := own_slice o2; exact ⟨_, _, _, e⟩)
               rw [strCells_octs, HOC.out] at o2
               have HG := Lib.hid (Sh.grow (ys := x) HS1.out HB.out HO.out PG.out HH.out (Below.refl _ _) o2 (by rw [HSZ.out, HKS.out]) g2 n2)
               have z0 := HG.out.1.cell 0
               have z1 := HG.out.1.frozen 0
               clear o2 g2 n2)
  go_end0
  refine ⟨rfl, ?_, HK1.out.trans HG.out.2.2⟩
  have h := HG.out.2.1
  rw [List.append_assoc] at h
  unfold pText
  rw [HKS.out]
  exact h
theorem flat_take {α : Type} (put : α → List Nat) (l : List α) (z : α) (k : Nat) (h : k < l.length) : (l.take (k + 1)).flatMap put = (l.take k).flatMap put ++ put (l.getD k z) := by
  rw [List.take_succ_eq_append_getElem h, List.flatMap_append, List.getD_eq_getElem?_getD, List.getElem?_eq_getElem h]
  simp
theorem flat_len {α : Type} (put : α → List Nat) (c : Nat) : ∀ (l : List α), (∀ x ∈ l, (put x).length ≤ c) → (l.flatMap put).length ≤ c * l.length
  | [], _ => by simp
  | x :: l, h => by
    have h1 := h x (by simp)
    have h2 := flat_len put c l (fun y hy => h y (by simp [hy]))
    rw [List.flatMap_cons, List.length_append, List.length_cons, Nat.mul_succ]
    omega
theorem getD_in {α : Type} {P : α → Prop} {l : List α} (h : ∀ x ∈ l, P x) {k : Nat} (hk : k < l.length) (z : α) : P (l.getD k z) := by
  rw [List.getD_eq_getElem?_getD, List.getElem?_eq_getElem hk]
  exact h _ (List.getElem_mem hk)
set_option maxRecDepth 100000 in
set_option maxHeartbeats 2000000 in
theorem sh_ints (H : Nat → Prop) (g : Nat) (xs : List Nat) (A : Option Addr) (n cap : Nat) (l : List Int) (w : World) (hp : Hid (Sh H g xs w)) (hS : Hid (Safe H g w)) (hL : Hid (Reads w w.heap.size 1 A n (l.map iv))) (hH : Hid (0 < n → ∀ ad, A = some ad → H ad.block)) (hn : Hid (l.length = n)) (hn2 : n ≤ 1048576) (hI : Hid (∀ x ∈ l, I64 x)) (hl : xs.length + 10485770 ≤ 70000000000000) :
    Calls Tryz.prog 72 #[.pointer (some ⟨g, 0, none⟩), .slice A n cap, .func (.func 51) #[.pointer (some ⟨g, 0, none⟩)] #[]] w (RetW H g (xs ++ pList pInt l) w) := by
  have e1 : IntKind.u64.wrap (n : Int) = (n : Int) := by rw [IntKind.wrap_u64]; omega
  have HC := Lib.hid (sh_number H g xs n w hp hS (by omega) (by omega))
  have HN10 := Lib.hid (putN_len10 (n := n) (by omega))
  go_enter Tryz.func72, Tryz.ntmps72
  go_wp2_with fail
  refine HC.out.mono ?_
  rintro e w1 ⟨rfl, h1, h2⟩
  have HP1 := Lib.hid h1
  have HK1 := Lib.hid h2
  clear h1 h2 HC e1
  go_wp2
  go_loopw [7, 15] (fun vx vi wr => ∃ (k : Nat) (ys : List Nat), k ≤ n ∧ vi = .int .i64 k ∧ Hid (ys = xs ++ (putN n ++ (l.take k).flatMap pInt)) ∧ Hid (Sh H g ys wr) ∧ Hid (Keep H w wr)) (fun _ vi _ => n - (intOf vi).toNat)
  case atStart => exact ⟨0, xs ++ putN n, by omega, rfl, Lib.hid (by simp), HP1, HK1⟩
  case round =>
    obtain ⟨k, ys, hk, rfl, hy, hs, hkp⟩ := hrel
    by_cases hlt : k < n
    · have d1 : decide (k < n) = true := decide_eq_true hlt
      have hkl : k < l.length := by have := hn.out; omega
      have hyl : ys.length ≤ xs.length + 10 + 10 * k := by
        have h1 := flat_len pInt 10 (l.take k) (fun x hx => pInt_len (hI.out x (List.mem_of_mem_take hx)))
        rw [List.length_take] at h1
        have h3 := HN10.out
        rw [hy.out, List.length_append, List.length_append]
        have : 10 * min k l.length ≤ 10 * k := Nat.mul_le_mul_left _ (Nat.min_le_left _ _)
        omega
      have hyb : ys.length + 10 ≤ 70000000000000 := by omega
      clear hyl
      have HY2 := Lib.hid (show ys ++ pInt (l.getD k 0) = xs ++ (putN n ++ (l.take (k + 1)).flatMap pInt) from by rw [hy.out, flat_take pInt l 0 k hkl]; simp only [List.append_assoc])
      have hx := getD_in hI.out hkl 0
      have hr := hkp.out.reads hL.out hH.out
      obtain ⟨ad, hA, hbl, hc⟩ := hr.2 (by omega : 0 < n)
      subst hA
      have hck := hc k (iv (l.getD k 0)) (by rw [List.getElem?_map, List.getD_eq_getElem?_getD, List.getElem?_eq_getElem hkl]; rfl)
      obtain ⟨y, hy'⟩ : ∃ y, l.getD k 0 = y := ⟨_, rfl⟩
      rw [hy'] at hck hx HY2
      unfold iv at hck
      have HX := Lib.hid hx
      clear hy' hc hbl hr hx
      go_wp2_with (first
        | (go_at_call 51; refine (sh_int H g ys y wr hs (Lib.hid (hS.out.keep hkp.out)) HX.out (by omega)).mono ?_; rintro e w3 ⟨rfl, h3⟩; have HR := Lib.hid h3; have HKA := Lib.hid hkp.out; clear h3))
      exact ⟨⟨k + 1, _, by omega, by go_num, HY2, Lib.hid HR.out.1, Lib.hid (HKA.out.trans HR.out.2)⟩, by simp [intOf]; omega⟩
    · obtain rfl : k = n := by omega
      go_wp2
      go_end0
      refine ⟨rfl, ?_, hkp.out⟩
      unfold pList
      have h := hy.out
      rw [List.take_of_length_le (by rw [hn.out]; exact Nat.le_refl _)] at h
      rw [hn.out, ← h]
      exact hs.out
end Go.Proofs.YthgiafjiemiifaaGreat
end
