/-
  MatrixTurns, walked.
-/
import Derived.Test.YtebpaafofombaaaMxT6
import Derived.Deep.Slices
namespace Go.Proofs.Ytebpaafofombaaa
open Go.RowKit GfMath MxMath
set_option linter.unusedVariables false
def RetIn (r : Nat) (ls : List (List Nat)) (w : World) (e : Ending) (w' : World) : Prop := ∃ A cap, e = .returned (.slice A r cap) ∧ InM w' A cap ls ∧ Below w.heap.size w w'
def RetMC (ls : List (List Nat)) (code : Int) (w : World) (e : Ending) (w' : World) : Prop := ∃ A cap n, ls.length = n ∧ e = .returned (.tuple #[.slice A n cap, .int .i64 code]) ∧ InM w' A cap ls ∧ Below w.heap.size w w'
def RetBC (ys : List Nat) (code : Int) (w : World) (e : Ending) (w' : World) : Prop := ∃ A cap n, ys.length = n ∧ e = .returned (.tuple #[.slice A n cap, .int .i64 code]) ∧ Reads w' w'.heap.size 1 A n (ys.map bv) ∧ Below w.heap.size w w'
theorem mx_in {ls : List (List Nat)} {r : Nat} {w w' : World} {e : Ending} (hr : ls.length = r) (h : RetMx ls w e w') : RetIn r ls w e w' := by
  obtain ⟨v, rfl, hs⟩ := h
  obtain ⟨A, cap, rfl, hi⟩ := hs.own.slice
  exact ⟨A, cap, by rw [hr], hi, hs.bel⟩
theorem mm_mc {ls : List (List Nat)} {code : Int} {w w' : World} {e : Ending} (h : RetMM ls code w e w') : RetMC ls code w e w' := by
  obtain ⟨v, rfl, hs⟩ := h
  obtain ⟨A, cap, rfl, hi⟩ := hs.own.slice
  exact ⟨A, cap, _, rfl, rfl, hi, hs.bel⟩
theorem none_mc {code : Int} {w w' : World} {e : Ending} (h : RetNone code w e w') : RetMC [] code w e w' := mm_mc (none_mm h)
theorem row_bc {r : Nat} {f : Nat → El} {code : Int} {w w' : World} {e : Ending} (h : RetRowE r f code w e w') : RetBC (lrow r f) code w e w' := by
  obtain ⟨A, cap, rfl, _, _, ho, hb⟩ := h
  exact ⟨A, cap, r, lrow_len r f, rfl, Reads.of_own ho, hb⟩
theorem none_bc {code : Int} {w w' : World} {e : Ending} (h : RetNone code w e w') : RetBC [] code w e w' := by
  obtain ⟨rfl, hb⟩ := h
  exact ⟨none, 0, 0, rfl, rfl, Reads.none_, hb⟩
theorem muls (ls ks : List (List Nat)) (r q : Nat) (hr : ls.length = r) (hq : ks.length = q) (hb : ∀ l ∈ ls, Byt l) (hb' : ∀ l ∈ ks, Byt l) :
    ∃ xs code, ∀ (A B : Option Addr) (ca cb : Nat) (w : World), Hid (InM w A ca ls) → Hid (InM w B cb ks) →
      Calls Try.prog 14 #[.slice A r ca, .slice B q cb] w (RetMC xs code w) ∧ Calls Try.prog 27 #[.slice A r ca, .slice B q cb] w (RetMC xs code w) := by
  subst hr hq
  by_cases hg : ∃ n, Good ls n
  · obtain ⟨n, hg⟩ := hg
    have e := good_mat hg hb
    by_cases hk : ∃ n, Good ks n
    · obtain ⟨m, hk⟩ := hk
      have e' := good_mat hk hb'
      obtain ⟨r0, r1, n0, n1, -⟩ := hg
      obtain ⟨q0, q1, m0, m1, -⟩ := hk
      obtain ⟨r, hr⟩ : ∃ r, ls.length = r := ⟨_, rfl⟩
      obtain ⟨q, hq⟩ : ∃ r, ks.length = r := ⟨_, rfl⟩
      rw [hr] at r0 r1 e ⊢
      rw [hq] at q0 q1 e' ⊢
      by_cases hne : n = q
      · subst hne
        refine ⟨lmat r m (mm n (matOf ls) (matOf ks)), 0, fun A B ca cb w HA HB => ?_⟩
        rw [e] at HA
        rw [e'] at HB
        exact ⟨(mul_ok A B ca cb r n m _ _ w HA HB r0 r1 n0 n1 m0 m1).mono fun e w' k => mm_mc k, (rmul_ok A B ca cb r n m _ _ w HA HB r0 r1 n0 n1 m0 m1).mono fun e w' k => mm_mc k⟩
      · refine ⟨[], 2, fun A B ca cb w HA HB => ?_⟩
        rw [e] at HA
        rw [e'] at HB
        exact ⟨(mul_differ A B ca cb r n q m _ _ w HA HB r0 r1 n0 n1 q0 q1 m0 m1 hne).mono fun e w' k => none_mc k, (rmul_differ A B ca cb r n q m _ _ w HA HB r0 r1 n0 n1 q0 q1 m0 m1 hne).mono fun e w' k => none_mc k⟩
    · refine ⟨[], 20, fun A B ca cb w HA HB => ⟨?_, (rmul_bad A B ca cb ls ks w HA HB (fun h => hk h.2)).mono fun e w' k => none_mc k⟩⟩
      have HA' := HA
      rw [e] at HA'
      obtain ⟨r0, r1, n0, n1, -⟩ := hg
      exact (mul_bad2 A B ca cb ls.length n _ ks w HA' HB r0 r1 n0 n1 hk).mono fun e w' k => none_mc k
  · exact ⟨[], 20, fun A B ca cb w HA HB => ⟨(mul_bad1 A ca _ ls w HA hg).mono fun e w' k => none_mc k, (rmul_bad A B ca cb ls ks w HA HB (fun h => hg h.1)).mono fun e w' k => none_mc k⟩⟩
theorem inverts (ls : List (List Nat)) (r : Nat) (hr : ls.length = r) (hb : ∀ l ∈ ls, Byt l) :
    ∃ xs code, ∀ (A : Option Addr) (ca : Nat) (w : World), Hid (InM w A ca ls) →
      Calls Try.prog 12 #[.slice A r ca] w (RetMC xs code w) ∧ Calls Try.prog 28 #[.slice A r ca] w (RetMC xs code w) := by
  subst hr
  by_cases hg : ∃ n, Good ls n
  · obtain ⟨n, hg⟩ := hg
    have e := good_mat hg hb
    obtain ⟨r0, r1, n0, n1, -⟩ := hg
    obtain ⟨r, hr⟩ : ∃ r, ls.length = r := ⟨_, rfl⟩
    rw [hr] at r0 r1 e ⊢
    by_cases hne : r = n
    · subst hne
      by_cases hf : rankN r r (matOf ls) = r
      · refine ⟨lmat r r (invM r (matOf ls)), 0, fun A ca w HA => ?_⟩
        rw [e] at HA
        exact ⟨(invert_ok A ca r _ w HA r0 r1 hf).mono fun e w' k => mm_mc k, (rinvert_sq A ca r _ w HA r0 r1).mono fun e w' k => by rcases k with ⟨_, k⟩ | ⟨k, _⟩; exact mm_mc k; exact absurd hf k⟩
      · refine ⟨[], 21, fun A ca w HA => ?_⟩
        rw [e] at HA
        exact ⟨(invert_not A ca r _ w HA r0 r1 hf).mono fun e w' k => none_mc k, (rinvert_sq A ca r _ w HA r0 r1).mono fun e w' k => by rcases k with ⟨k, _⟩ | ⟨_, k⟩; exact absurd k hf; exact none_mc k⟩
    · refine ⟨[], 2, fun A ca w HA => ?_⟩
      rw [e] at HA
      exact ⟨(invert_flat A ca r n _ w HA r0 r1 n0 n1 hne).mono fun e w' k => none_mc k, (rinvert_flat A ca r n _ w HA r0 r1 n0 n1 hne).mono fun e w' k => none_mc k⟩
  · exact ⟨[], 20, fun A ca w HA => ⟨(invert_bad A ca ls w HA hg).mono fun e w' k => none_mc k, (rinvert_bad A ca ls w HA hg).mono fun e w' k => none_mc k⟩⟩
theorem ranks (ls : List (List Nat)) (r : Nat) (hr : ls.length = r) (hb : ∀ l ∈ ls, Byt l) :
    ∃ x code : Int, ∀ (A : Option Addr) (ca : Nat) (w : World), Hid (InM w A ca ls) →
      Calls Try.prog 13 #[.slice A r ca] w (RetNum x code w) ∧ Calls Try.prog 29 #[.slice A r ca] w (RetNum x code w) := by
  subst hr
  by_cases hg : ∃ n, Good ls n
  · obtain ⟨n, hg⟩ := hg
    have e := good_mat hg hb
    obtain ⟨r0, r1, n0, n1, -⟩ := hg
    obtain ⟨r, hr⟩ : ∃ r, ls.length = r := ⟨_, rfl⟩
    rw [hr] at r0 r1 e ⊢
    refine ⟨((rankN r n (matOf ls) : Nat) : Int), 0, fun A ca w HA => ?_⟩
    rw [e] at HA
    exact ⟨rank_any A ca r n _ w HA r0 r1 n0 n1, rrank_any A ca r n _ w HA r0 r1 n0 n1⟩
  · exact ⟨0, 20, fun A ca w HA => ⟨rank_bad A ca ls w HA hg, rrank_bad A ca ls w HA hg⟩⟩
theorem applies (ls : List (List Nat)) (r : Nat) (vs : List Nat) (m cb : Nat) (hr : ls.length = r) (hb : ∀ l ∈ ls, Byt l) (hv : Byt vs) (hm : vs.length = m) :
    ∃ ys code, Byt ys ∧ ∀ (A B : Option Addr) (ca : Nat) (w : World), Hid (InM w A ca ls) → Hid (Reads w w.heap.size 1 B m (vs.map bv)) →
      Calls Try.prog 21 #[.slice A r ca, .slice B m cb] w (RetBC ys code w) ∧ Calls Try.prog 30 #[.slice A r ca, .slice B m cb] w (RetBC ys code w) := by
  subst hr
  have hnil : Byt [] := fun x hx => by cases hx
  by_cases hg : ∃ n, Good ls n
  · obtain ⟨n, hg⟩ := hg
    have e := good_mat hg hb
    obtain ⟨r0, r1, n0, n1, -⟩ := hg
    obtain ⟨r, hr⟩ : ∃ r, ls.length = r := ⟨_, rfl⟩
    rw [hr] at r0 r1 e ⊢
    by_cases hne : m = n
    · subst hne
      refine ⟨lrow r (fun i => fsum m (fun j => matOf ls i j * col vs j)), 0, lrow_byt _ _, fun A B ca w HA HB => ?_⟩
      rw [e] at HA
      have HB' := Lib.hid (col_reads hv hm HB.out)
      exact ⟨(apply_ok A B ca cb r m _ (col vs) w HA HB' r0 r1 n0 n1).mono fun e w' k => row_bc k, (rapply_ok A B ca cb r m _ (col vs) w HA HB' r0 r1 n0 n1).mono fun e w' k => row_bc k⟩
    · refine ⟨[], 2, hnil, fun A B ca w HA HB => ?_⟩
      rw [e] at HA
      exact ⟨(apply_differ A B ca cb r n m _ w HA r0 r1 n0 n1 hne).mono fun e w' k => none_bc k, (rapply_differ A B ca cb r n m _ w HA r0 r1 n0 n1 hne).mono fun e w' k => none_bc k⟩
  · exact ⟨[], 20, hnil, fun A B ca w HA HB => ⟨(apply_bad A ca _ ls w HA hg).mono fun e w' k => none_bc k, (rapply_bad A ca _ ls w HA hg).mono fun e w' k => none_bc k⟩⟩
section
open Go.WideShapes Go.ChangeShapes Go.Deep
variable {H : Type} {enc : TypeId × Value → H} {w : World} {base : Nat} {sp : Nat → Bool} {held : Bool}
theorem weights_mem_all {P : Program} {e : TypeId} : ∀ {ds : List (DataW H)} {d : DataW H}, d ∈ ds → ∀ n ∈ d.weights P e, n ∈ DataW.weightsAll P e ds
  | d0 :: ds, d, hd, n, hn => by
    simp only [DataW.weightsAll, List.mem_append]
    rcases List.mem_cons.1 hd with rfl | hd
    · exact .inl hn
    · exact .inr (weights_mem_all hd n hn)
/-- A matrix that comes in. -/
theorem open_mat_s {v : Value} {d : DataW H} {p : List MemPlace} (hv : v.cells.toList = [v]) (h : DataW.Trod enc Try.prog w base sp held 24 v d p) (hsz : (d.weights Try.prog 24).all (· ≤ reachBytes) = true) :
    ∃ A cap ls, v = .slice A ls.length cap ∧ InM w A cap ls ∧ Fits ls := by
  obtain ⟨fuel, hf⟩ := h
  rw [hv] at hf
  rcases open_slice Try.underlying24 hf with ⟨e, _⟩ | ⟨a, len, cap, m, n, D, Pl, e, hb, hl, hm, hmm, hx, hi⟩
  · injection e with e
    exact ⟨none, 0, [], e, ⟨by simp, by unfold maxLen; omega, [], Reads.none_, RowsIn.nil _⟩, ⟨by simp, fun i hi => absurd hi (by simp)⟩⟩
  · injection e with e
    have hlm : len ≤ m := by rw [hmm]; split <;> omega
    have hxd : d = .slice ((List.range len).map D) ((List.range (m - len)).map fun j => D (len + j)) := congrArg Prod.fst hx
    have hr24 : len * 24 ≤ 140737488351232 := by
      have h1 := List.all_eq_true.1 hsz (m * 24) (by rw [hxd]; simp only [DataW.weights, Try.underlying24, show Try.prog.bytesOf 22 = 24 from by kernel_rfl]; refine List.mem_cons.2 (.inl ?_); simp; omega)
      have h2 : m * 24 ≤ reachBytes := by simpa using h1
      unfold reachBytes at h2
      omega
    have hrow : ∀ i, i < len → ∃ (B : Option Addr) (c : Nat) (l : List Nat), w.cell? (a.add i) = some (.slice B l.length c) ∧ l.length ≤ c ∧ c ≤ maxLen ∧ Reads w w.heap.size 1 B l.length (l.map bv) ∧ Byt l ∧ l.length ≤ 140737488351232 := by
      intro i hil
      obtain ⟨cs', hc, ht'⟩ := hi i (by omega)
      rw [show Try.prog.cellsOf 22 = 1 from by kernel_rfl, Nat.mul_one] at hc
      obtain ⟨_, hcl, hat⟩ := World.cells?_some hc
      obtain ⟨u, rfl⟩ : ∃ u, cs' = [u] := by
        match cs', hcl with
        | [u], _ => exact ⟨u, rfl⟩
      obtain ⟨B, k, c, rfl⟩ : ∃ B k c, u = .slice B k c := by
        rcases open_slice Try.underlying22 ht' with ⟨e, -⟩ | ⟨a, len, cap, m, n, D, Pl, e, -⟩ <;> injection e with e <;> exact ⟨_, _, _, e⟩
      obtain ⟨zs, hzs⟩ := open_in_ints Try.underlying22 Try.underlying5 (by kernel_rfl) (trod_one rfl ht')
      have hw : ((D i).weights Try.prog 22).all (· ≤ reachBytes) = true := by
        refine List.all_eq_true.2 fun k hk => List.all_eq_true.1 hsz k ?_
        rw [hxd]
        simp only [DataW.weights, Try.underlying24]
        refine List.mem_cons_of_mem _ (List.mem_append_left _ (weights_mem_all (d := D i) ?_ k hk))
        exact List.mem_map.2 ⟨i, List.mem_range.2 hil, rfl⟩
      have hr1 := ints_reach (b := 1) Try.underlying22 Try.underlying5 (by kernel_rfl) (trod_one rfl ht') (fun el sr hd => by
        have h1 := List.all_eq_true.1 hw ((el.length + sr.length) * 1) (by
          have hd' : D i = .slice el sr := hd
          rw [hd']; simp only [DataW.weights, Try.underlying22, show Try.prog.bytesOf 5 = 1 from by kernel_rfl]; exact List.mem_cons_self)
        simpa using h1)
      obtain ⟨l, h1, h2, h3, h4, h5⟩ := hzs.bytes
      subst h2
      have hc0 := hat 0 (by omega)
      rw [show (a.add i).add 0 = a.add i from by simp [Addr.add]] at hc0
      exact ⟨B, c, l, hc0, h4, h5, h3, h1, by omega⟩
    obtain ⟨ls, h1, h2⟩ : ∃ ls : List (List Nat), ls.length = len ∧ ∀ i (hi : i < ls.length), ∃ (B : Option Addr) (c : Nat), w.cell? (a.add i) = some (.slice B ls[i].length c) ∧ ls[i].length ≤ c ∧ c ≤ maxLen ∧ Reads w w.heap.size 1 B ls[i].length (ls[i].map bv) ∧ Byt ls[i] ∧ ls[i].length ≤ 140737488351232 := by
      clear hx hi hmm hl hlm e hxd hr24 hsz
      induction len with
      | zero => exact ⟨[], rfl, fun i hi => absurd hi (by simp)⟩
      | succ len ih =>
        obtain ⟨ns, h1, h2⟩ := ih fun i hi => hrow i (by omega)
        obtain ⟨B, c, l, hs⟩ := hrow len (by omega)
        refine ⟨ns ++ [l], by simp [h1], fun i hi => ?_⟩
        by_cases hlt : i < ns.length
        · rw [List.getElem_append_left hlt]; exact h2 i hlt
        · obtain rfl : i = len := by simp at hi; omega
          rw [List.getElem_append_right (by omega)]
          simp only [h1, Nat.sub_self, List.getElem_cons_zero]
          exact ⟨B, c, hs⟩
    subst h1
    have hB : ∀ i, i < ls.length → ∃ v, w.cell? (a.add i) = some v ∧ ∃ B c, v = .slice B (ls.getD i []).length c ∧ (ls.getD i []).length ≤ c ∧ c ≤ maxLen ∧ Reads w w.heap.size 1 B (ls.getD i []).length ((ls.getD i []).map bv) ∧ Byt (ls.getD i []) ∧ (ls.getD i []).length ≤ 140737488351232 := fun i hi => by
      obtain ⟨B, c, g1, g2⟩ := h2 i hi
      have e : ls.getD i [] = ls[i] := by rw [List.getD_eq_getElem?_getD, List.getElem?_eq_getElem hi]; rfl
      rw [e]
      exact ⟨_, g1, B, c, rfl, g2⟩
    refine ⟨some a, cap, ls, e, ⟨hl, hm, (List.range ls.length).map (fun i => (w.cell? (a.add i)).getD undef), ⟨by simp, fun hn => ⟨a, rfl, ?_, fun j u hu => ?_⟩⟩, by simp, fun i l hl' => ?_⟩, ⟨hr24, fun i hi => by obtain ⟨_, _, _, _, _, _, _, _, _, h9⟩ := hB i hi; exact h9⟩⟩
    · obtain ⟨v, g1, _⟩ := hB 0 hn
      have := World.block_lt_of_cell? _ _ g1
      rwa [block_of_add] at this
    · have hj : j < ls.length := by have := (List.getElem?_eq_some_iff.1 hu).1; simpa using this
      obtain ⟨v, g1, _⟩ := hB j hj
      rw [List.getElem?_map, List.getElem?_range hj] at hu
      injection hu with hu
      rw [← hu]; simp [g1]
    · obtain ⟨hi', rfl⟩ := List.getElem?_eq_some_iff.1 hl'
      obtain ⟨v, g1, B, c, rfl, g2⟩ := hB i hi'
      have e : ls.getD i [] = ls[i] := by rw [List.getD_eq_getElem?_getD, List.getElem?_eq_getElem hi']; rfl
      rw [e] at g1 g2
      exact ⟨B, c, by rw [List.getElem?_map, List.getElem?_range hi']; simp [g1], g2.1, g2.2.1, g2.2.2.1, g2.2.2.2.1⟩
end
set_option maxRecDepth 100000 in
set_option maxHeartbeats 40000000 in
theorem turns_ok (W : World) (A B V : Option Addr) (ca cb m cv : Nat) (la lb : List (List Nat)) (vs : List Nat) (hA : InM W A ca la) (hB : InM W B cb lb) (fa : Fits la) (fb : Fits lb) (hV : Reads W W.heap.size 1 V m (vs.map bv)) (hvb : Byt vs) (hm : vs.length = m) :
    Calls Try.prog 8 #[.slice A la.length ca, .slice B lb.length cb, .slice V m cv] W (Yes W) := by
  obtain ⟨r, hr⟩ : ∃ r, la.length = r := ⟨_, rfl⟩
  obtain ⟨q, hq⟩ : ∃ r, lb.length = r := ⟨_, rfl⟩
  obtain ⟨x1, x2, x3, -, -, -, -, hck⟩ := rcheck_any la hA.byt
  obtain ⟨xm, codem, hmu⟩ := muls la lb r q hr hq hA.byt hB.byt
  obtain ⟨xi, codei, hiv⟩ := inverts la r hr hA.byt
  obtain ⟨xr, coder, hrk⟩ := ranks la r hr hA.byt
  obtain ⟨ys, codea, hby, hap⟩ := applies la r vs m cv hr hA.byt hvb hm
  have HCA : Hid (∀ w, Hid (InM w A ca la) → Calls Try.prog 24 #[.slice A r ca] w (RetIn r la w)) := Lib.hid (fun w h => by have := rcopy_any A ca la w h fa; rw [hr] at this; exact this.mono fun e w' k => mx_in hr k)
  have HCB : Hid (∀ w, Hid (InM w B cb lb) → Calls Try.prog 24 #[.slice B q cb] w (RetIn q lb w)) := Lib.hid (fun w h => by have := rcopy_any B cb lb w h fb; rw [hq] at this; exact this.mono fun e w' k => mx_in hq k)
  rw [hr] at hck ⊢
  rw [hq]
  have HR := Lib.hid hr
  have HQ := Lib.hid hq
  have HCK := Lib.hid hck
  have HMU := Lib.hid hmu
  have HIV := Lib.hid hiv
  have HRK := Lib.hid hrk
  have HAP := Lib.hid hap
  have HBY := Lib.hid hby
  have HA := Lib.hid hA
  have HB := Lib.hid hB
  have HV := Lib.hid hV
  have NB := Lib.hid (Below.refl W.heap.size W)
  have tk1 : True := trivial
  have tk2 : True := trivial
  have tk3 : True := trivial
  have tk4 : True := trivial
  clear hr hq hck hmu hiv hrk hap hby hA hB hV fa fb hvb hm
  go_enter Try.func8, Try.ntmps8
  go_wp2_with (first
    | (go_at_call 24; have _t := tk1; refine (HCA.out _ HA).mono ?_; rintro e w1 ⟨Ax, cx, rfl, hi, hb⟩; have HA := Lib.hid (HA.out.later hb); have HB := Lib.hid (HB.out.later hb); have HV := Lib.hid (HV.out.later hb); have Ix := Lib.hid hi; have NB := Lib.hid (bel_trans NB.out (hb)); clear hi hb tk1 _t)
    | (go_at_call 24; refine (HCB.out _ HB).mono ?_; rintro e w2 ⟨Ay, cy, rfl, hi, hb⟩; have HA := Lib.hid (HA.out.later hb); have HB := Lib.hid (HB.out.later hb); have HV := Lib.hid (HV.out.later hb); have Ix := Lib.hid (Ix.out.later hb); have Iy := Lib.hid hi; have NB := Lib.hid (bel_trans NB.out (hb)); clear hi hb)
    | (go_at_call 25; refine (HCK.out _ _ _ Ix).1.mono ?_; rintro e w3 ⟨rfl, hb⟩; have HA := Lib.hid (HA.out.later hb); have HB := Lib.hid (HB.out.later hb); have HV := Lib.hid (HV.out.later hb); have Ix := Lib.hid (Ix.out.later hb); have Iy := Lib.hid (Iy.out.later hb); have NB := Lib.hid (bel_trans NB.out (hb)); clear hb)
    | (go_at_call 26; refine (HCK.out _ _ _ HA).2.mono ?_; rintro e w4 ⟨rfl, hb⟩; have HA := Lib.hid (HA.out.later hb); have HB := Lib.hid (HB.out.later hb); have HV := Lib.hid (HV.out.later hb); have Ix := Lib.hid (Ix.out.later hb); have Iy := Lib.hid (Iy.out.later hb); have NB := Lib.hid (bel_trans NB.out (hb)); clear hb)
    | (go_at_call 14; refine (HMU.out _ _ _ _ _ Ix Iy).1.mono ?_; rintro e w5 ⟨Am, cm, nm, hn, rfl, hi, hb⟩; have HA := Lib.hid (HA.out.later hb); have HB := Lib.hid (HB.out.later hb); have HV := Lib.hid (HV.out.later hb); have Ix := Lib.hid (Ix.out.later hb); have Iy := Lib.hid (Iy.out.later hb); have Im := Lib.hid hi; have Nm := Lib.hid hn; have NB := Lib.hid (bel_trans NB.out (hb)); clear hi hb hn)
    | (go_at_call 27; refine (HMU.out _ _ _ _ _ HA HB).2.mono ?_; rintro e w6 ⟨An, cn, nn, hn, rfl, hi, hb⟩; have HA := Lib.hid (HA.out.later hb); have HB := Lib.hid (HB.out.later hb); have HV := Lib.hid (HV.out.later hb); have Ix := Lib.hid (Ix.out.later hb); have Iy := Lib.hid (Iy.out.later hb); have Im := Lib.hid (Im.out.later hb); have In := Lib.hid hi; have Nn := Lib.hid hn; have NB := Lib.hid (bel_trans NB.out (hb)); clear hi hb hn)
    | (go_at_call 15; have _t := tk2; refine (samem_bel Am An cm cn nm nn xm xm _ Im In Nm.out Nn.out).mono ?_; rintro e w7 ⟨rfl, hb⟩; rw [same_true]; have HA := Lib.hid (HA.out.later hb); have HB := Lib.hid (HB.out.later hb); have HV := Lib.hid (HV.out.later hb); have Ix := Lib.hid (Ix.out.later hb); have Iy := Lib.hid (Iy.out.later hb); have NB := Lib.hid (bel_trans NB.out (hb)); clear hb tk2 _t)
    | (go_at_call 12; refine (HIV.out _ _ _ Ix).1.mono ?_; rintro e w8 ⟨Ai, ci, ni, hn, rfl, hi, hb⟩; have HA := Lib.hid (HA.out.later hb); have HB := Lib.hid (HB.out.later hb); have HV := Lib.hid (HV.out.later hb); have Ix := Lib.hid (Ix.out.later hb); have Iy := Lib.hid (Iy.out.later hb); have Ii := Lib.hid hi; have Ni := Lib.hid hn; have NB := Lib.hid (bel_trans NB.out (hb)); clear hi hb hn)
    | (go_at_call 28; refine (HIV.out _ _ _ HA).2.mono ?_; rintro e w9 ⟨Ak, ck, nk, hn, rfl, hi, hb⟩; have HA := Lib.hid (HA.out.later hb); have HB := Lib.hid (HB.out.later hb); have HV := Lib.hid (HV.out.later hb); have Ix := Lib.hid (Ix.out.later hb); have Iy := Lib.hid (Iy.out.later hb); have Ii := Lib.hid (Ii.out.later hb); have Ik := Lib.hid hi; have Nk := Lib.hid hn; have NB := Lib.hid (bel_trans NB.out (hb)); clear hi hb hn)
    | (go_at_call 13; refine (HRK.out _ _ _ Ix).1.mono ?_; rintro e w10 ⟨rfl, hb⟩; have HA := Lib.hid (HA.out.later hb); have HB := Lib.hid (HB.out.later hb); have HV := Lib.hid (HV.out.later hb); have Ix := Lib.hid (Ix.out.later hb); have Iy := Lib.hid (Iy.out.later hb); have Ii := Lib.hid (Ii.out.later hb); have Ik := Lib.hid (Ik.out.later hb); have NB := Lib.hid (bel_trans NB.out (hb)); clear hb)
    | (go_at_call 29; refine (HRK.out _ _ _ HA).2.mono ?_; rintro e w11 ⟨rfl, hb⟩; have HA := Lib.hid (HA.out.later hb); have HB := Lib.hid (HB.out.later hb); have HV := Lib.hid (HV.out.later hb); have Ix := Lib.hid (Ix.out.later hb); have Iy := Lib.hid (Iy.out.later hb); have Ii := Lib.hid (Ii.out.later hb); have Ik := Lib.hid (Ik.out.later hb); have NB := Lib.hid (bel_trans NB.out (hb)); clear hb)
    | (go_at_call 21; refine (HAP.out _ _ _ _ Ix HV).1.mono ?_; rintro e w12 ⟨Aw, cw, nw, hn, rfl, hi, hb⟩; have HA := Lib.hid (HA.out.later hb); have HB := Lib.hid (HB.out.later hb); have HV := Lib.hid (HV.out.later hb); have Ix := Lib.hid (Ix.out.later hb); have Iy := Lib.hid (Iy.out.later hb); have Ii := Lib.hid (Ii.out.later hb); have Ik := Lib.hid (Ik.out.later hb); have Iw := Lib.hid hi; have Nw := Lib.hid hn; have NB := Lib.hid (bel_trans NB.out (hb)); clear hi hb hn)
    | (go_at_call 30; refine (HAP.out _ _ _ _ HA HV).2.mono ?_; rintro e w13 ⟨Ad, cd, nd, hn, rfl, hi, hb⟩; have HA := Lib.hid (HA.out.later hb); have HB := Lib.hid (HB.out.later hb); have HV := Lib.hid (HV.out.later hb); have Ix := Lib.hid (Ix.out.later hb); have Iy := Lib.hid (Iy.out.later hb); have Ii := Lib.hid (Ii.out.later hb); have Ik := Lib.hid (Ik.out.later hb); have Iw := Lib.hid (Iw.out.later hb); have Id := Lib.hid hi; have Nd := Lib.hid hn; have NB := Lib.hid (bel_trans NB.out (hb)); clear hi hb hn)
    | (go_at_call 15; have _t := tk3; refine (samem_bel Ai Ak ci ck ni nk xi xi _ Ii Ik Ni.out Nk.out).mono ?_; rintro e w14 ⟨rfl, hb⟩; rw [same_true]; have HA := Lib.hid (HA.out.later hb); have HB := Lib.hid (HB.out.later hb); have Ix := Lib.hid (Ix.out.later hb); have Iy := Lib.hid (Iy.out.later hb); have Iw := Lib.hid (Iw.out.later hb); have Id := Lib.hid (Id.out.later hb); have NB := Lib.hid (bel_trans NB.out (hb)); clear hb tk3 _t)
    | (go_at_call 22; refine (same_any Aw Ad cw cd nw nd ys ys _ HBY.out HBY.out Iw.out Id.out).mono ?_; rintro e w15 ⟨rfl, rfl⟩; rw [sameb_true])
    | (go_at_call 15; have _t := tk4; refine (samem_bel Ax A cx ca r r la la _ Ix HA HR.out HR.out).mono ?_; rintro e w16 ⟨rfl, hb⟩; rw [same_true]; have HB := Lib.hid (HB.out.later hb); have Iy := Lib.hid (Iy.out.later hb); have NB := Lib.hid (bel_trans NB.out (hb)); clear hb tk4 _t)
    | (go_at_call 15; refine (samem_bel Ay B cy cb q q lb lb _ Iy HB HQ.out HQ.out).mono ?_; rintro e w17 ⟨rfl, hb⟩; rw [same_true]; skip; have NB := Lib.hid (bel_trans NB.out (hb)); clear hb)
    | (go_at_call 9; refine (heads_true _).mono ?_; rintro e w18 ⟨rfl, hb⟩; have NB := Lib.hid (bel_trans NB.out (hb)); clear hb))
  go_ret
  exact ⟨rfl, NB.out⟩
end Go.Proofs.Ytebpaafofombaaa
