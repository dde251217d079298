/-
  THE REFERENCE's Copy, Invert, Rank.
-/
import Derived.Test.YtebpaafofombaaaMxT3
namespace Go.Proofs.Ytebpaafofombaaa
open Go.RowKit GfMath MxMath
set_option linter.unusedVariables false
theorem wpl_row_big {ops : Array Oper} {rest : List Oper} {o : Oper} {a : Act} {Q : Exit → Act → World → Prop} {w wr : World} {v : Value} {ls : List (List Nat)} (hg : o.guard = none) (s x : Operand)
    (ho : o.op = .call { callee := .builtin .append, args := #[s, x], argTypes := #[24, 24] }) (hst : MSt w v ls wr) (hl : ls.length * 24 ≤ 140737488351232) (u : Value) (l : List Nat)
    (hu : wr.ownsRow w.heap.size 5 1 u l.length (l.map bv)) (hb : Byt l) (hs : a.eval s = v) {gx : Nat} (hgx : gx = wr.heap.size) (hx : a.eval x = .slice (some ⟨gx, 0, none⟩) 1 1)
    (h : ∀ v' w', Hid (MSt w v' (ls ++ [l]) w' ∧ Others wr w') → wpList Try.prog ops Q rest (a.put o.dst v') w') : wpList Try.prog ops Q (o :: rest) a (wr.alloc (.cells #[u] 22)) := by
  subst hgx
  obtain ⟨i, hi, h2, h3, h4⟩ := info_parts Try.info22
  obtain ⟨⟨vs, hown, hrows⟩, hbel⟩ := hst.alloc (.cells #[u] 22)
  have hu1 : u.oneCell' = true := by
    obtain ⟨A, c, rfl, _⟩ := own_slice hu
    rfl
  refine wpList_append_any _ hg s x 24 ho w.heap.size 22 i (.slice none 0 0) 1 24 Try.underlying24 hi h2 h3 h4 rfl (by decide) v ls.length vs hs hown (wr.heap.size + 1) (some ⟨wr.heap.size, 0, none⟩) 1 1 [u] hx
    (Reads.lit1 wr 22 u) (by intro y hy; rw [List.mem_singleton.1 hy]; exact hu1) (by unfold maxLen; omega) (by omega) hbel.size fun v' w' k1 k2 k3 => h v' w' (Lib.hid ⟨⟨⟨vs ++ [u], by rw [List.length_append]; exact k1, ?_⟩, ?_⟩, ?_⟩)
  · have hu' : (wr.alloc (.cells #[u] 22)).ownsRow w.heap.size 5 1 u l.length (l.map bv) := hu.alloc _
    exact (hrows.snoc hu' hb).kept k2 fun y _ hy => row_apart (t := 0) hy hown
  · exact bel_grown_own hbel hbel.size hown k2
  · intro g t cs hne hB
    refine (hB.alloc _).grown k2 fun e => ?_
    exact own_blk_ne hown (hB.alloc _) (fun e2 => hne e2.symm) e.symm
/-- What may be copied. -/
structure Fits (ls : List (List Nat)) : Prop where
  n : ls.length * 24 ≤ 140737488351232
  l : ∀ i, i < ls.length → (ls.getD i []).length ≤ 140737488351232
set_option maxRecDepth 100000 in
set_option maxHeartbeats 1000000 in
theorem rcopy_any (A : Option Addr) (cap : Nat) (ls : List (List Nat)) (w : World) (HM : Hid (InM w A cap ls)) (hf : Fits ls) :
    Calls Try.prog 24 #[.slice A ls.length cap] w (RetMx ls w) := by
  have HST : Hid (MSt w (.slice none 0 0) (ls.take 0) w) := Lib.hid (MSt.nil (Below.refl _ _))
  have HF := Lib.hid hf.l
  have hln := hf.n
  clear hf
  obtain ⟨r, hr⟩ : ∃ r, ls.length = r := ⟨_, rfl⟩
  have HR := Lib.hid hr
  rw [hr] at hln ⊢
  clear hr
  go_enter Try.func24, Try.ntmps24
  go_wp2
  go_loopw [3, 4] (fun vo vi wr => ∃ k : Nat, k ≤ r ∧ vi = .int .i64 k ∧ Hid (MSt w vo (ls.take k) wr)) (fun _ vi _ => r - (intOf vi).toNat)
  case atStart => exact ⟨0, by omega, rfl, HST⟩
  case round =>
    obtain ⟨k, hk, rfl, hst⟩ := hrel
    clear HST
    by_cases hlt : k < r
    · obtain ⟨ad, B, c, rfl, hc1, h1, h2, hrow, hby⟩ := (HM.out.later hst.out.bel).row (i := k) (by rw [HR.out]; exact hlt)
      have hlen := HF.out k (by rw [HR.out]; exact hlt)
      obtain ⟨l, el⟩ : ∃ l, ls.getD k [] = l := ⟨_, rfl⟩
      rw [el] at hc1 h1 hrow hby hlen
      have EL := Lib.hid el
      have HBY := Lib.hid hby
      have HCP := Lib.hid (copy_any B c l wr hrow hlen)
      clear el hrow hby
      go_wp2_with (first
        | (go_at_call 23; refine (HCP.out).mono ?_; rintro e w1 ⟨u, rfl, ho, hb⟩; rw [List.length_map] at ho; obtain ⟨U, uc, rfl, -, -⟩ := own_slice ho; have HU := Lib.hid ho; have HBU := Lib.hid hb; clear ho hb)
        | (at_builtin
           refine wpl_row_big rfl (.tmp 11) (.tmp 17) rfl (hst.out.below HBU.out) ?ln (.slice U l.length uc) l ?ow HBY.out rfl ?gx rfl ?_
           case gx => rfl
           case ln => (rw [List.length_take]; have := Nat.min_le_left k ls.length; omega)
           case ow => exact own_base HU.out hst.out.bel.size
           intro v2 w2 hh))
      refine ⟨⟨k + 1, by omega, by go_num, Lib.hid ?_⟩, by simp [intOf]; omega⟩
      rw [take_rows ls k (by rw [HR.out]; exact hlt), EL.out]
      exact hh.out.1
    · obtain rfl : r = k := by omega
      go_wp2
      go_ret
      have h := hst.out
      rw [← HR.out, List.take_length] at h
      exact ⟨_, rfl, h⟩
theorem wpl_zmrow {ops : Array Oper} {rest : List Oper} {o : Oper} {a : Act} {Q : Exit → Act → World → Prop} {w wr : World} {v : Value} {r n : Nat} {g c : Nat → Nat} {M : Mat} (hg : o.guard = none) (s x : Operand)
    (ho : o.op = .call { callee := .builtin .append, args := #[s, x], argTypes := #[24, 24] }) (hst : ZM w.heap.size v r n g c M wr) (hbel : Below w.heap.size w wr) (hl : r ≤ 1000) (q cq : Nat) (hR : RowAt w.heap.size q n cq (M r) wr) (hne : ∀ i, i < r → g i ≠ q)
    (hs : a.eval s = v) {gx : Nat} (hgx : gx = wr.heap.size) (hx : a.eval x = .slice (some ⟨gx, 0, none⟩) 1 1)
    (h : ∀ v' w', Hid (ZM w.heap.size v' (r + 1) n (fun i => if i = r then q else g i) (fun i => if i = r then cq else c i) M w' ∧ Below w.heap.size w w') → wpList Try.prog ops Q rest (a.put o.dst v') w') : wpList Try.prog ops Q (o :: rest) a (wr.alloc (.cells #[.slice (some ⟨q, 0, none⟩) n cq] 22)) := by
  subst hgx
  obtain ⟨i, hi, h2, h3, h4⟩ := info_parts Try.info22
  have hb1 := (Below.refl wr.heap.size wr).alloc (Nat.le_refl _) (.cells #[.slice (some ⟨q, 0, none⟩) n cq] 22)
  have hst' := hst.later hb1
  have hR' : RowAt w.heap.size q n cq (M r) (wr.alloc (.cells #[.slice (some ⟨q, 0, none⟩) n cq] 22)) := own_below hR hb1
  have hbel' := hbel.trans (hb1.mono hbel.size)
  refine wpList_append_any _ hg s x 24 ho w.heap.size 22 i (.slice none 0 0) 1 24 Try.underlying24 hi h2 h3 h4 rfl (by decide) v r _ hs hst'.own (wr.heap.size + 1) (some ⟨wr.heap.size, 0, none⟩) 1 1 [.slice (some ⟨q, 0, none⟩) n cq] hx
    (Reads.lit1 wr 22 _) (by intro y hy; rw [List.mem_singleton.1 hy]; rfl) (by unfold maxLen; omega) (by omega) hbel'.size fun v' w' k1 k2 k3 => h v' w' (Lib.hid ⟨⟨?_, ?_, ?_⟩, ?_⟩)
  · have e : ((List.range (r + 1)).map fun i => Value.slice (some ⟨if i = r then q else g i, 0, none⟩) n (if i = r then cq else c i)) = ((List.range r).map fun i => Value.slice (some ⟨g i, 0, none⟩) n (c i)) ++ [.slice (some ⟨q, 0, none⟩) n cq] := by
      rw [List.range_succ, List.map_append]
      congr 1
      · refine List.map_congr_left fun i hi => ?_
        have := List.mem_range.1 hi
        rw [if_neg (by omega), if_neg (by omega)]
      · simp
    rw [e]; exact k1
  · intro p hp
    by_cases e : p = r
    · subst e
      simp only [if_true]
      exact hR'.kept k2 (.inr (fun e2 => hst'.apart hR' e2.symm))
    · have hp' : p < r := by omega
      simp only [if_neg e]
      exact (hst'.rows p hp').kept k2 (.inr (fun e2 => hst'.apart (hst'.rows p hp') e2.symm))
  · intro p p' hp hp' e
    by_cases e1 : p = r <;> by_cases e2 : p' = r
    · omega
    · subst e1; simp only [if_true, if_neg e2] at e; exact absurd e.symm (hne p' (by omega))
    · subst e2; simp only [if_true, if_neg e1] at e; exact absurd e (hne p (by omega))
    · simp only [if_neg e1, if_neg e2] at e; exact hst'.inj p p' (by omega) (by omega) e
  · exact bel_grown_own hbel' hbel'.size hst'.own k2
def RetZM (r n : Nat) (M : Mat) (w : World) (e : Ending) (w' : World) : Prop := ∃ v g c, e = .returned v ∧ ZM w.heap.size v r n g c M w' ∧ Below w.heap.size w w'
theorem zm_nil (w : World) (base n : Nat) (M : Mat) : ZM base (.slice none 0 0) 0 n (fun _ => 0) (fun _ => 0) M w := ⟨⟨rfl, .inl ⟨rfl, rfl⟩⟩, fun i h => absurd h (by omega), fun i j h => absurd h (by omega)⟩
set_option maxRecDepth 100000 in
set_option maxHeartbeats 1000000 in
theorem rcopy_z (A : Option Addr) (cap r n : Nat) (M : Mat) (w : World) (HM : Hid (InM w A cap (lmat r n M))) (r1 : r ≤ 255) (n0 : 0 < n) (n1 : n ≤ 255) :
    Calls Try.prog 24 #[.slice A r cap] w (RetZM r n M w) := by
  have HST : Hid (ZM w.heap.size (.slice none 0 0) 0 n (fun _ => 0) (fun _ => 0) M w ∧ Below w.heap.size w w) := Lib.hid ⟨zm_nil w _ n M, Below.refl _ _⟩
  go_enter Try.func24, Try.ntmps24
  go_wp2
  go_loopw [3, 4] (fun vo vi wr => ∃ k : Nat, ∃ g c : Nat → Nat, k ≤ r ∧ vi = .int .i64 k ∧ Hid (ZM w.heap.size vo k n g c M wr ∧ Below w.heap.size w wr)) (fun _ vi _ => r - (intOf vi).toNat)
  case atStart => exact ⟨0, _, _, by omega, rfl, HST⟩
  case round =>
    obtain ⟨k, g, c, hk, rfl, hst⟩ := hrel
    clear HST
    by_cases hlt : k < r
    · obtain ⟨ad, D, c', rfl, hc1, h3, h4, hrow⟩ := (HM.out.later hst.out.2).mrow hlt
      have HCP := Lib.hid (copy_any D c' (lrow n (M k)) wr (by rw [lrow_len]; exact hrow) (by rw [lrow_len]; omega))
      rw [lrow_len] at HCP
      clear hrow
      go_wp2_with (first
        | (go_at_call 23; refine (HCP.out).mono ?_; rintro e w1 ⟨u, rfl, ho, hb⟩; rw [List.length_map, lrow_len] at ho; obtain ⟨q, cq, rfl, hq1, hq2⟩ := ho.form n0; have HU := Lib.hid ho; have HBU := Lib.hid hb; have HQ := Lib.hid (And.intro hq1 hq2); clear ho hb hq1 hq2)
        | (at_builtin
           refine wpl_zmrow rfl (.tmp 11) (.tmp 17) rfl (hst.out.1.later HBU.out) (hst.out.2.trans (HBU.out.mono hst.out.2.size)) ?ln q cq ?ow ?ne rfl ?gx rfl ?_
           case gx => rfl
           case ln => omega
           case ow => exact own_base HU.out hst.out.2.size
           case ne => exact (fun i hi e => by have := (hst.out.1.rows i hi).hi; have := HQ.out.1; omega)
           intro v2 w2 hh))
      exact ⟨⟨k + 1, _, _, by omega, by go_num, hh⟩, by simp [intOf]; omega⟩
    · obtain rfl : r = k := by omega
      go_wp2
      go_ret
      exact ⟨_, _, _, rfl, hst.out.1, hst.out.2⟩
theorem ZSt.toZM {w wr : World} {v : Value} {r n : Nat} {g : Nat → Nat} {M : Mat} (h : ZSt w v r n g M wr) (hn : n ≤ maxLen) : ZM w.heap.size v r n g (fun _ => n) M wr :=
  ⟨h.own, fun i hi => own_of_blk (h.rows i hi).2 (by rw [List.length_map, lrow_len]) (h.rows i hi).1 hn, h.inj⟩
set_option maxRecDepth 100000 in
set_option maxHeartbeats 1000000 in
theorem rident_z (n : Nat) (w : World) (h0 : 0 < n) (h1 : n ≤ 255) :
    Calls Try.prog 16 #[.int .i64 n] w (fun e w' => ∃ v g, e = .returned (.tuple #[v, .int .i64 0]) ∧ ZSt w v n n g dl w') := by
  go_enter Try.func16, Try.ntmps16
  go_wp2_with (go_at_call 37; refine (zeros_any n n _ h1 h1).mono ?_; rintro e w1 ⟨v, g, rfl, hz⟩; have HZ := Lib.hid hz; clear hz)
  go_loopw [5] (fun vi wr => ∃ k : Nat, k ≤ n ∧ vi = .int .i64 k ∧ Hid (ZSt w v n n g (fun i j => if i < k then dl i j else 0) wr)) (fun vi _ => n - (intOf vi).toNat)
  case atStart => exact ⟨0, by omega, rfl, Lib.hid (HZ.out.congr fun i j _ _ => by simp)⟩
  case round =>
    obtain ⟨k, hk, rfl, hst⟩ := hrel
    by_cases hlt : k < n
    · obtain ⟨go, c, rfl, hc1, hc2, hcell⟩ := hst.out.outer h0
      have o1 := hcell k hlt
      obtain ⟨i1, i2⟩ := hst.out.inner hlt hlt
      clear hcell
      have HN := Lib.hid (hst.out.set_ (K := fun i j => if i < k + 1 then dl i j else 0) hlt hlt (show 1 < 256 by decide) (fun p q hp hq => by
        by_cases e : p = k
        · subst e
          by_cases e2 : q = p
          · subst e2; simp [dl]; rfl
          · simp [dl, e2, Ne.symm e2]
        · by_cases e3 : p < k
          · simp [e, e3, show p < k + 1 by omega]
          · simp [e, e3, show ¬ p < k + 1 by omega]))
      go_wp2
      exact ⟨⟨k + 1, by omega, by go_num, HN⟩, by simp [intOf]; omega⟩
    · obtain rfl : n = k := by omega
      go_wp2
      go_ret2
      exact ⟨_, _, rfl, hst.out.congr fun i j hi _ => by simp [hi]⟩
/-- Two matrices made one behind the other. -/
theorem z2_of {w w1 w2 w3 : World} {v v' : Value} {r n n' : Nat} {g c g' c' : Nat → Nat} {L R : Mat} (r0 : 0 < r) (hb1 : Below w.heap.size w w1) (h : ZM w1.heap.size v r n g c L w2) (hb2 : Below w1.heap.size w1 w2) (h' : ZM w2.heap.size v' r n' g' c' R w3) (hb3 : Below w2.heap.size w2 w3) :
    ∃ go ca go' ca', v = .slice (some ⟨go, 0, none⟩) r ca ∧ v' = .slice (some ⟨go', 0, none⟩) r ca' ∧ Z2 w go ca go' ca' r n n' g c g' c' L R w3 := by
  obtain ⟨go, ca, rfl, a1, a2⟩ := h.own.form r0
  obtain ⟨go', ca', rfl, b1, b2⟩ := h'.own.form r0
  have hw : Below w.heap.size w w2 := hb1.trans (hb2.mono hb1.size)
  refine ⟨go, ca, go', ca', rfl, rfl, (h.base_ hb1.size).later hb3, h'.base_ hw.size, fun i j hi hj e => ?_, fun e => ?_, hw.trans (hb3.mono hw.size)⟩
  · have := (h.rows i hi).hi
    have := (h'.rows j hj).lo
    omega
  · omega
theorem ZM.toM {w wr : World} {v : Value} {r n : Nat} {g c : Nat → Nat} {M : Mat} (h : ZM w.heap.size v r n g c M wr) (hb : Below w.heap.size w wr) : MSt w v (lmat r n M) wr := by
  refine ⟨⟨_, by rw [lmat_len]; exact h.own, by simp [lmat_len], fun i l hl => ?_⟩, hb⟩
  have hi : i < r := by have := (List.getElem?_eq_some_iff.1 hl).1; rwa [lmat_len] at this
  rw [lmat_get M hi] at hl
  injection hl with hl
  subst hl
  refine ⟨.slice (some ⟨g i, 0, none⟩) n (c i), by rw [List.getElem?_map, List.getElem?_range hi]; rfl, ?_, lrow_byt _ _⟩
  rw [lrow_len]
  exact h.rows i hi
set_option maxRecDepth 100000 in
set_option maxHeartbeats 1000000 in
theorem rinvert_sq (A : Option Addr) (ca r : Nat) (M : Mat) (w : World) (HA : Hid (InM w A ca (lmat r r M))) (r0 : 0 < r) (r1 : r ≤ 255) :
    Calls Try.prog 28 #[.slice A r ca] w (fun e w' => (rankN r r M = r ∧ RetMM (lmat r r (invM r M)) 0 w e w') ∨ (rankN r r M ≠ r ∧ RetNone 21 w e w')) := by
  have HCK := Lib.hid (rcheck_ok A ca r (lmat r r M) w HA (lmat_good M r0 r1 r0 r1))
  rw [lmat_len] at HCK
  have hle := red_le r M dl r
  have HRK : Hid ((red r ⟨0, M, dl⟩ r).d = rankN r r M) := Lib.hid (rankN_of r r M dl)
  obtain ⟨d, hd⟩ : ∃ d, (red r ⟨0, M, dl⟩ r).d = d := ⟨_, rfl⟩
  have HD := Lib.hid hd
  rw [hd] at hle
  clear hd
  by_cases hfull : d = r
  · go_enter Try.func28, Try.ntmps28
    have hfl := Lib.hid hfull
    have hnl : ¬ d < r := by omega
    clear hfull
    go_wp2_with (first
      | (go_at_call 26; refine (HCK.out).mono ?_; rintro e w1 ⟨rfl, hb⟩; have HB1 := Lib.hid hb; clear hb)
      | (go_at_call 24; refine (rcopy_z A ca r r M _ (Lib.hid (HA.out.later HB1.out)) r1 r0 r1).mono ?_; rintro e w2 ⟨v, g, c, rfl, hz, hb⟩; have HZ := Lib.hid hz; have HB2 := Lib.hid hb; clear hz hb)
      | (go_at_call 16; refine (rident_z r _ r0 r1).mono ?_; rintro e w3 ⟨v', g', rfl, hz⟩; obtain ⟨go, ca1, go', ca', rfl, rfl, hh⟩ := z2_of r0 HB1.out HZ.out HB2.out (hz.toZM (by unfold maxLen; omega)) hz.bel; have H2 := Lib.hid hh; clear hz hh)
      | (go_at_call 42; refine (rreduce w _ go ca1 go' ca' r r r _ _ _ _ M dl H2 r0 r1 r0 r1 r1).mono ?_; rintro e w4 ⟨rfl, g1, c1, g2, c2, hh⟩; rw [HD.out]; have H3 := Lib.hid hh; clear hh))
    go_ret2
    exact .inl ⟨by rw [← HRK.out, HD.out]; exact hfl.out, _, rfl, H3.out.ro.toM H3.out.bel⟩
  · have hlt : d < r := by omega
    have hfl := Lib.hid hfull
    clear hfull
    go_enter Try.func28, Try.ntmps28
    go_wp2_with (first
      | (go_at_call 26; refine (HCK.out).mono ?_; rintro e w1 ⟨rfl, hb⟩; have HB1 := Lib.hid hb; clear hb)
      | (go_at_call 24; refine (rcopy_z A ca r r M _ (Lib.hid (HA.out.later HB1.out)) r1 r0 r1).mono ?_; rintro e w2 ⟨v, g, c, rfl, hz, hb⟩; have HZ := Lib.hid hz; have HB2 := Lib.hid hb; clear hz hb)
      | (go_at_call 16; refine (rident_z r _ r0 r1).mono ?_; rintro e w3 ⟨v', g', rfl, hz⟩; obtain ⟨go, ca1, go', ca', rfl, rfl, hh⟩ := z2_of r0 HB1.out HZ.out HB2.out (hz.toZM (by unfold maxLen; omega)) hz.bel; have H2 := Lib.hid hh; clear hz hh)
      | (go_at_call 42; refine (rreduce w _ go ca1 go' ca' r r r _ _ _ _ M dl H2 r0 r1 r0 r1 r1).mono ?_; rintro e w4 ⟨rfl, g1, c1, g2, c2, hh⟩; rw [HD.out]; have H3 := Lib.hid hh; clear hh))
    go_ret2
    exact .inr ⟨by rw [← HRK.out, HD.out]; exact hfl.out, rfl, H3.out.bel⟩
set_option maxRecDepth 100000 in
set_option maxHeartbeats 1000000 in
theorem rrank_any (A : Option Addr) (ca r n : Nat) (M : Mat) (w : World) (HA : Hid (InM w A ca (lmat r n M))) (r0 : 0 < r) (r1 : r ≤ 255) (n0 : 0 < n) (n1 : n ≤ 255) :
    Calls Try.prog 29 #[.slice A r ca] w (RetNum (rankN r n M) 0 w) := by
  have HCK := Lib.hid (rcheck_ok A ca n (lmat r n M) w HA (lmat_good M r0 r1 n0 n1))
  rw [lmat_len] at HCK
  have HRK : Hid ((red r ⟨0, M, fun _ _ => 0⟩ n).d = rankN r n M) := Lib.hid (rankN_of r n M _)
  go_enter Try.func29, Try.ntmps29
  go_wp2_with (first
    | (go_at_call 26; refine (HCK.out).mono ?_; rintro e w1 ⟨rfl, hb⟩; have HB1 := Lib.hid hb; clear hb)
    | (go_at_call 24; refine (rcopy_z A ca r n M _ (Lib.hid (HA.out.later HB1.out)) r1 n0 n1).mono ?_; rintro e w2 ⟨v, g, c, rfl, hz, hb⟩; have HZ := Lib.hid hz; have HB2 := Lib.hid hb; clear hz hb)
    | (go_at_call 37; refine (zeros_any r 1 _ r1 (by omega)).mono ?_; rintro e w3 ⟨v', g', rfl, hz⟩; obtain ⟨go, ca1, go', ca', rfl, rfl, hh⟩ := z2_of r0 HB1.out HZ.out HB2.out (hz.toZM (by unfold maxLen; omega)) hz.bel; have H2 := Lib.hid hh; clear hz hh)
    | (go_at_call 42; refine (rreduce w _ go ca1 go' ca' r n 1 _ _ _ _ M (fun _ _ => 0) H2 r0 r1 n0 n1 (by omega)).mono ?_; rintro e w4 ⟨rfl, g1, c1, g2, c2, hh⟩; rw [HRK.out]; have H3 := Lib.hid hh; clear hh))
  go_ret2
  exact ⟨rfl, H3.out.bel⟩
end Go.Proofs.Ytebpaafofombaaa
