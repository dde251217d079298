/-
  THE PROGRAM'S WRITER of states, exported. (printed by gen_pameta.py); THE REFERENCE'S WRITER of states; what is the same. (printed by gen_pameta.py). (joined out of PaS10, PaQ20 by shake.py)
-/
import Derived.Test.YthgiafjiemiifaaGreatPbk39
import Derived.Test.YthgiafjiemiifaaGreatPbk23
import Derived.Test.YthgiafjiemiifaaGreatPbk29
import Derived.Test.YthgiafjiemiifaaGreatPbk37
import Derived.Test.YthgiafjiemiifaaGreatPbk19
section
namespace Go.Proofs.YthgiafjiemiifaaGreat
open Go.RowKit OctMath
set_option linter.unusedVariables false
set_option linter.unusedSimpArgs false
/-- A state that is handed in. -/
structure MetR (m : MM) (w : World) : Prop where
  map : Reads w w.heap.size 2 m.MA m.x.mem.length (mcells m.x.mem)
  next : Reads w w.heap.size 2 m.NA m.x.nem.length (mcells m.x.nem)
  cut : Reads w w.heap.size 1 m.CA m.x.cut.length (m.x.cut.map iv)
  objs : Reads w w.heap.size 7 m.OA m.x.objs.length (m.os.flatMap omCs)
  ints : Reads w w.heap.size 9 m.IA m.x.ints.length (m.is.flatMap imCs)
  sess : Reads w w.heap.size 5 m.SA m.x.sess.length (m.x.sess.flatMap sesL)
  wass : Reads w w.heap.size 4 m.WA m.x.wass.length (m.x.wass.flatMap wasL)
  down : Reads w w.heap.size 1 m.DA m.x.down.length (m.x.down.map iv)
  os : m.os.map (·.x) = m.x.objs
  is : m.is.map (·.x) = m.x.ints
  oss : ∀ o ∈ m.os, Reads w w.heap.size 1 o.A o.x.nodes.length (o.x.nodes.map iv)
  iss : ∀ o ∈ m.is, Reads w w.heap.size 1 o.A o.x.obj.nodes.length (o.x.obj.nodes.map iv)
theorem MetR.later {m : MM} {w w' : World} (h : MetR m w) (hb : Below w.heap.size w w') : MetR m w' := ⟨h.map.later hb, h.next.later hb, h.cut.later hb, h.objs.later hb, h.ints.later hb, h.sess.later hb, h.wass.later hb, h.down.later hb, h.os, h.is, fun o ho => (h.oss o ho).later hb, fun o ho => (h.iss o ho).later hb⟩
theorem rd_lt {w : World} {sz n B : Nat} {A : Option Addr} {xs : List Value} (h : Reads w B sz A n xs) : 0 < n → ∀ ad, A = some ad → ad.block < B := fun h0 ad e => by
  obtain ⟨ad1, e1, h1, -⟩ := h.2 h0
  rw [e] at e1; injection e1 with e1; subst e1; exact h1
theorem MetR.len {m : MM} {w : World} (h : MetR m w) : m.os.length = m.x.objs.length ∧ m.is.length = m.x.ints.length := ⟨by rw [← h.os, List.length_map], by rw [← h.is, List.length_map]⟩
/-- The writer, handed a state of the caller's. -/
theorem sh_metaM (g : Nat) (xs : List Nat) (m : MM) (w w2 : World) (hK : MetR m w) (hB : Below w.heap.size w w2) (hp : Hid (Sh (fun k => k < w.heap.size) g xs w2)) (hS : Hid (Safe (fun k => k < w.heap.size) g w2)) (HO : MetOk m.x) (hl : xs.length + 24189778002080 ≤ 70000000000000) :
    Calls Tryz.prog 32 #[.pointer (some ⟨g, 0, none⟩), .agg m.cs] w2 (RetW (fun k => k < w.heap.size) g (xs ++ pMet m.x) w2) :=
  have R := hK.later hB
  sh_meta (fun k => k < w.heap.size) g xs m.MA m.mc m.NA m.nc m.CA m.cc m.OA m.oc m.IA m.ic m.SA m.sc m.WA m.wc m.DA m.dc m.os m.is m.x w2 hp hS (Lib.hid R.map) (Lib.hid (rd_lt hK.map)) (Lib.hid R.next) (Lib.hid (rd_lt hK.next)) (Lib.hid R.cut) (Lib.hid (rd_lt hK.cut)) (Lib.hid R.objs) (Lib.hid (rd_lt hK.objs)) (Lib.hid R.ints) (Lib.hid (rd_lt hK.ints)) (Lib.hid R.sess) (Lib.hid (rd_lt hK.sess)) (Lib.hid R.wass) (Lib.hid (rd_lt hK.wass)) (Lib.hid R.down) (Lib.hid (rd_lt hK.down)) (Lib.hid hK.os) (Lib.hid hK.is) (Lib.hid R.oss) (Lib.hid fun o ho => rd_lt (hK.oss o ho)) (Lib.hid R.iss) (Lib.hid fun o ho => rd_lt (hK.iss o ho)) HO hl
set_option maxRecDepth 100000 in
set_option maxHeartbeats 4000000 in
theorem wri_meta (O : Option Addr) (on oc : Nat) (xs : List Nat) (m : MM) (w : World) (hO : Hid (Reads w w.heap.size 1 O on (xs.map bv))) (hK : Hid (MetR m w)) (HO : MetOk m.x) (hl : on + 24189778002080 ≤ 70000000000000) :
    Calls Tryz.prog 31 #[.slice O on oc, .agg m.cs, .func (.func 32) #[] #[]] w (RetO (xs ++ pMet m.x) w) := by
  have hon : xs.length = on := by simpa using hO.out.1
  have HON := Lib.hid hon
  have hmk : ∀ W : World, (Instr.makeSlice 22 (.int .i64 0) (.int .i64 ((on : Int) + 64))).run Tryz.prog W = .ok (.slice (some ⟨W.heap.size, 0, none⟩) 0 (on + 64)) (W.alloc (.cells (madeCells #[.int .u8 0] (on + 64)) 5)) := fun W => by
    have := make0 (on + 64) (by omega) W
    rw [show ((on + 64 : Nat) : Int) = (on : Int) + 64 from by omega] at this
    exact this
  have HO := Lib.hid HO
  obtain ⟨ys, hys⟩ : ∃ ys, xs ++ pMet m.x = ys := ⟨_, rfl⟩
  have HYS := Lib.hid hys
  rw [hys]
  clear hys
  obtain ⟨w0, ew0⟩ : ∃ w0, w.alloc (.cells m.cs 53) = w0 := ⟨_, rfl⟩
  have hb : Below w.heap.size w (w.alloc (.cells m.cs 53)) := (Below.refl _ _).alloc (Nat.le_refl _) _
  have hx : Blk (w.alloc (.cells m.cs 53)) w.heap.size 53 m.cs := Blk.new w _ _
  rw [ew0] at hb hx
  have hsz : w0.heap.size = w.heap.size + 1 := by rw [← ew0]; simp
  have HB0 := Lib.hid hb
  have HX0 := Lib.hid hx
  have HS0 := Lib.hid hsz
  clear hb hx hsz hon
  go_enter Tryz.func31, Tryz.ntmps31
  go_wp2_with (first
    | (at_builtin
       refine wpl_append rfl (.tmp 11) (.tmp 12) _ rfl w0 w0.heap.size 5 _ 1 1 Tryz.underlying22 Tryz.infoU8 rfl (by decide) (.slice (some ⟨w0.heap.size, 0, none⟩) 0 (on + 64)) 0 [] rfl ?own (w0.heap.size + 1) O on oc (xs.map bv) rfl ?rd (bv_one xs) (by omega) (by decide) ?bel ?base ?_
       case own => exact World.ownsRow_made w0 _ _ (Nat.le_refl _) (by unfold maxLen; omega) (by rw [size_madeCells, Nat.mul_one])
       case rd => exact ((hO.out.later HB0.out).alloc (Nat.le_refl _) _).more (by simp)
       case bel => exact (Below.refl _ _).alloc (Nat.le_refl _) _
       case base => simp
       intro v1 w1 hh
       obtain ⟨PA, pn, pc, rfl⟩ : ∃ PA pn pc, v1 = .slice PA pn pc := (by obtain ⟨x, y, e, _⟩ := own_slice hh.out.1; exact ⟨_, _, _, e⟩)
       have h1 := hh.out.1
       have h2 := hh.out.2.1
       have h3 := hh.out.2.2
       have hbs : Below w0.heap.size w0 (w1.alloc (.cells #[.slice PA pn pc] 119)) := h2.alloc h3 _
       have hsh : Sh (fun k => k < w.heap.size) w1.heap.size xs (w1.alloc (.cells #[.slice PA pn pc] 119)) := (by
         refine ⟨⟨_, Blk.new _ _ _, ?_, fun e => by have := (h1.lt _ e).2; omega, fun k hk e => by have := (h1.lt _ e).1; have := HS0.out; omega⟩⟩
         have h := own_baseO h1 (Nat.zero_le _)
         rw [HON.out]
         simpa using h.alloc _)
       obtain ⟨w2, ew2⟩ : ∃ w2, w1.alloc (.cells #[.slice PA pn pc] 119) = w2 := ⟨_, rfl⟩
       rw [ew2] at hbs hsh
       have HX2 := Lib.hid (HX0.out.below hbs (by have := HS0.out; omega))
       have HB4 := Lib.hid (show Below w.heap.size w w2 from HB0.out.trans (hbs.mono (by have := HS0.out; omega)))
       have HSH := Lib.hid hsh
       have HSF := Lib.hid (show Safe (fun k => k < w.heap.size) w1.heap.size w2 from fun k hk => ⟨Nat.lt_of_lt_of_le hk HB4.out.size, by have := HS0.out; omega⟩)
       clear ew0 hmk h1 h2 h3 hbs hsh)
    | (refine wpl_load_blk rfl 53 (.tmp 4) rfl w.heap.size 53 _ _ rfl HX2.out Tryz.underlying53 rfl Tryz.sizeMet ?_)
    | (go_at_call 32; refine (sh_metaM w1.heap.size xs m w w2 hK.out HB4.out HSH HSF HO.out (by have := HON.out; omega)).mono ?_; rintro e w3 ⟨rfl, h1, h2⟩
       rw [HYS.out] at h1
       have HK3 := Lib.hid h2
       obtain ⟨pv, pB, pO, -, -⟩ := h1.out
       obtain ⟨A3, c3, rfl, -, -⟩ := own_slice pO
       have z0 := pB.cell 0
       have HR := Lib.hid (Reads.of_own pO)
       clear h1 h2 pB pO ew2))
  go_ret
  refine ⟨_, _, rfl, HR.out, ?_⟩
  exact HB4.out.trans (HK3.out.toBelow HB4.out.size (fun k hk => hk))
set_option maxRecDepth 100000 in
set_option maxHeartbeats 4000000 in
theorem put_meta (O : Option Addr) (on oc : Nat) (xs : List Nat) (m : MM) (w : World) (hO : Hid (Reads w w.heap.size 1 O on (xs.map bv))) (hK : Hid (MetR m w)) (HO : MetOk m.x) (hl : on + 24189778002080 ≤ 70000000000000) :
    Calls Tryz.prog 13 #[.slice O on oc, .agg m.cs] w (RetO (xs ++ pMet m.x) w) := by
  obtain ⟨w0, ew0⟩ : ∃ w0, w.alloc (.cells m.cs 53) = w0 := ⟨_, rfl⟩
  have hb : Below w.heap.size w (w.alloc (.cells m.cs 53)) := (Below.refl _ _).alloc (Nat.le_refl _) _
  have hx : Blk (w.alloc (.cells m.cs 53)) w.heap.size 53 m.cs := Blk.new w _ _
  rw [ew0] at hb hx
  have HX0 := Lib.hid hx
  have HB0 := Lib.hid hb
  obtain ⟨ys, hys⟩ : ∃ ys, xs ++ pMet m.x = ys := ⟨_, rfl⟩
  rw [hys]
  have HC := Lib.hid (wri_meta O on oc xs m w0 (Lib.hid (hO.out.later hb)) (Lib.hid (hK.out.later hb)) HO hl)
  rw [hys] at HC
  clear hx hb hys
  go_enter Tryz.func13, Tryz.ntmps13
  go_wp2_with (first
    | (refine wpl_load_blk rfl 53 (.tmp 3) rfl w.heap.size 53 _ _ rfl HX0.out Tryz.underlying53 rfl Tryz.sizeMet ?_)
    | (go_at_call 31; refine HC.out.mono ?_; rintro e w1 ⟨A1, c1, rfl, r1, hb1⟩; have HR := Lib.hid (And.intro r1 hb1); clear r1 hb1))
  go_ret
  exact ⟨_, _, rfl, HR.out.1, HB0.out.trans (HR.out.2.mono HB0.out.size)⟩
end Go.Proofs.YthgiafjiemiifaaGreat
end
section
namespace Go.Proofs.YthgiafjiemiifaaGreat
open Go.RowKit OctMath
set_option linter.unusedVariables false
set_option linter.unusedSimpArgs false
theorem ls_of {w w1 : World} {g sz n : Nat} {A : Option Addr} {xs : List Value} (h : Reads w w.heap.size sz A n xs) (hB : Below w.heap.size w w1) (hf : ∀ k, k < w.heap.size → Free (wMd g) k w1) : Ls (wMd g) sz A n xs w1 := ⟨h.later hB, fun h0 ad e => hf _ (rd_lt h h0 ad e)⟩
/-- The reference's writer, handed a state of the caller's. -/
theorem pf_metaW (g : Nat) (m : MM) (w w1 : World) (hS : Hid ((wMd g).St [] w1)) (hK : MetR m w) (hB : Below w.heap.size w w1) (hf : ∀ k, k < w.heap.size → Free (wMd g) k w1) (HO : MetOk m.x) :
    Calls Tryz.prog 29 #[.pointer (some ⟨g, 0, none⟩), .agg m.cs] w1 (RetMt (wMd g) (metF (wMd g) [] m.x).1 (metF (wMd g) [] m.x).2 w1) :=
  pf_meta (wMd g) (wMd_ok g) [] m.MA m.mc m.NA m.nc m.CA m.cc m.OA m.oc m.IA m.ic m.SA m.sc m.WA m.wc m.DA m.dc m.os m.is m.x w1 hS (Lib.hid (ls_of hK.map hB hf)) (Lib.hid (ls_of hK.next hB hf)) (Lib.hid (ls_of hK.cut hB hf)) (Lib.hid (ls_of hK.objs hB hf)) (Lib.hid (ls_of hK.ints hB hf)) (Lib.hid (ls_of hK.sess hB hf)) (Lib.hid (ls_of hK.wass hB hf)) (Lib.hid (ls_of hK.down hB hf)) (Lib.hid ⟨fun r hr => by
      obtain ⟨o, ho, rfl⟩ := List.mem_map.1 hr
      have h := ls_of (hK.oss o ho) hB hf
      exact ⟨h, rd_lt h.rd⟩⟩) (Lib.hid ⟨fun r hr => by
      obtain ⟨o, ho, rfl⟩ := List.mem_map.1 hr
      have h := ls_of (hK.iss o ho) hB hf
      exact ⟨h, rd_lt h.rd⟩⟩) (Lib.hid hK.os) (Lib.hid hK.is) HO (Lib.hid (fun h => by cases h)) (Lib.hid (fun h => by cases h)) (Lib.hid (fun h => by cases h)) (Lib.hid (fun h => by cases h)) (Lib.hid (fun h => by cases h)) (Lib.hid (fun h => by cases h)) (Lib.hid (fun h => by cases h)) (Lib.hid (fun h => by cases h)) (Lib.hid (by show 0 + 24189778002120 ≤ 70000000000000; omega))
set_option maxRecDepth 100000 in
set_option maxHeartbeats 4000000 in
theorem rput_meta (m : MM) (w : World) (hK : Hid (MetR m w)) (HO : MetOk m.x) :
    Calls Tryz.prog 30 #[.slice none 0 0, .agg m.cs] w (RetO (pMet m.x) w) := by
  obtain ⟨ys, hys⟩ : ∃ ys, pMet m.x = ys := ⟨_, rfl⟩
  have HYS := Lib.hid hys
  rw [hys]
  clear hys
  obtain ⟨w0, ew0⟩ : ∃ w0, w.alloc (.cells m.cs 53) = w0 := ⟨_, rfl⟩
  have hb : Below w.heap.size w (w.alloc (.cells m.cs 53)) := (Below.refl _ _).alloc (Nat.le_refl _) _
  have hx : Blk (w.alloc (.cells m.cs 53)) w.heap.size 53 m.cs := Blk.new w _ _
  rw [ew0] at hb hx
  have HB0 := Lib.hid hb
  have HX0 := Lib.hid hx
  clear hb hx
  have HPF := Lib.hid (fun (g : Nat) (w1 : World) hS (hB : Below w.heap.size w w1) hf => pf_metaW g m w w1 hS hK.out hB hf HO)
  go_enter Tryz.func30, Tryz.ntmps30
  go_wp2_with (first
    | (go_at_call 49; refine (pen_writer none 0 0 [] _ Reads.none_ (by omega)).mono ?_; rintro en w1 ⟨g, rfl, hg, hb, hp⟩
       have HB4 := Lib.hid (HB0.out.trans (hb.mono HB0.out.size))
       have HP1 := Lib.hid (hp.mono (H' := fun k => k < w.heap.size) (fun k hk => .inl (Nat.lt_of_lt_of_le hk HB0.out.size)))
       have HGE := Lib.hid (show w.heap.size ≤ g from Nat.le_trans HB0.out.size hg)
       have HX1 := Lib.hid (HX0.out.below hb HX0.out.lt)
       clear hg hb hp ew0)
    | (refine wpl_load_blk rfl 53 (.tmp 3) rfl w.heap.size 53 _ _ rfl HX1.out Tryz.underlying53 rfl Tryz.sizeMet ?_)
    | (go_at_call 29; refine (HPF.out g w1 (Lib.hid (HP1.out.mono (fun _ h => h.elim))) HB4.out (fun k hk => pen_free HP1.out hk HB4.out.size HGE.out)).mono ?_; rintro en w2 ⟨M1, -, rfl, -, hs, hk⟩
       have hs : Pen (fun _ => False) g (metF (wMd g) [] m.x).1 w2 := hs
       rw [w_met, List.nil_append, HYS.out] at hs
       have HK := Lib.hid hk
       obtain ⟨pv, pB, pO, -, -⟩ := hs.out
       obtain ⟨A9, c9, rfl, -, -⟩ := own_slice pO
       have z0 := pB.cell 0
       have HR := Lib.hid (Reads.of_own pO)
       clear hs hk pB pO))
  go_ret
  exact ⟨_, _, rfl, HR.out, HB4.out.trans (stp_below HK.out HB4.out.size (fun k hk => (pen_free HP1.out hk HB4.out.size HGE.out).wr))⟩
set_option maxRecDepth 100000 in
set_option maxHeartbeats 2000000 in
/-- The same content is the same. -/
theorem same_meta (m : MM)  (w : World) (hK : Hid (MetR m w)) (m9 : MM) (e9 : m9.x = m.x) (hK9 : Hid (MetR m9 w)) (HO : MetOk m.x) :
    Calls Tryz.prog 12 #[.agg m.cs, .agg m9.cs] w (fun e w' => e = .returned (.bool true) ∧ Below w.heap.size w w') := by
  obtain ⟨ys, hys⟩ : ∃ ys, pMet m.x = ys := ⟨_, rfl⟩
  have HP1 := Lib.hid (fun W kK => rput_meta m W kK HO)
  have HP2 := Lib.hid (fun W kK => rput_meta m9 W kK (e9.symm ▸ HO))
  rw [e9] at HP2
  rw [hys] at HP1 HP2
  clear hys HO
  have b1 := Lib.hid ((Blk.new w 53 m.cs).alloc (.cells m9.cs 53))
  have b2 := Lib.hid (Blk.new (w.alloc (.cells m.cs 53)) 53 m9.cs)
  have n1 := Lib.hid (((Below.refl w.heap.size w).alloc (Nat.le_refl _) (.cells m.cs 53)).alloc (by simp) (.cells m9.cs 53))
  have es : (w.alloc (.cells m.cs 53)).heap.size = w.heap.size + 1 := by simp
  rw [es] at b2
  go_enter Tryz.func12, Tryz.ntmps12
  go_wp2
  obtain ⟨W, hW⟩ : ∃ W, (w.alloc (.cells m.cs 53)).alloc (.cells m9.cs 53) = W := ⟨_, rfl⟩
  rw [hW] at b1 b2 n1 ⊢
  clear hW es
  refine wp_region_late (S0 := fun _ => True) (S := fun w' => Blk w' w.heap.size 53 m.cs ∧ Blk w' (w.heap.size + 1) 53 m9.cs) 7 8 (by kernel_rfl) rfl ⟨trivial, b1.out.drew, b2.out.drew⟩ (fun wd hwd hH => ?_)
  have nd := Lib.hid (show Below w.heap.size w wd from by rw [hwd]; exact n1.out.drew)
  clear hwd b1 b2 n1
  refine wpAnyT_take 0 rfl (by kernel_rfl) (fun _ _ _ h => h) (yields_load_blk rfl 53 (.tmp 2) rfl w.heap.size 53 m.cs _ rfl (fun w' hw' => hw'.1) Tryz.underlying53 rfl Tryz.sizeMet) hH ?_
  try simp only [Act.put, List.setIfInBounds_toArray, List.set_cons_zero, List.set_cons_succ]
  refine wpAnyT_take 3 rfl (by kernel_rfl) (fun _ _ _ h => h) (yields_load_blk rfl 53 (.tmp 3) rfl (w.heap.size + 1) 53 m9.cs _ rfl (fun w' hw' => hw'.2) Tryz.underlying53 rfl Tryz.sizeMet) hH ?_
  try simp only [Act.put, List.setIfInBounds_toArray, List.set_cons_zero, List.set_cons_succ]
  have H3 := Lib.hid (show ((strOf ys).toList == (strOf ys).toList) = true from by simp)
  refine wpAnyT_one 1 rfl (by kernel_rfl) (fun K hQ => ?_)
  go_simp
  (go_at_call 30; refine (HP1.out _ (Lib.hid (hK.out.later nd.out))).mono ?_; rintro e w1 ⟨A7, cap1, rfl, r1, hb⟩; have R1 := Lib.hid r1; have HB1 := Lib.hid hb; clear r1 hb)
  refine hQ.out _ _ ⟨trivial, hH.2.1.below HB1.out hH.2.1.lt, hH.2.2.below HB1.out hH.2.2.lt⟩ (fun hH1 => ?_)
  clear hQ K
  try simp only [Act.put, List.setIfInBounds_toArray, List.set_cons_zero, List.set_cons_succ]
  refine wpAnyT_mono (S0' := fun w' => Reads w' w'.heap.size 1 A7 ys.length (ys.map bv)) (S' := fun w' => Blk w' w.heap.size 53 m.cs ∧ Blk w' (w.heap.size + 1) 53 m9.cs) (fun _ _ => trivial) (fun _ h => h) _ _ _ _ ?_
  refine wpAnyT_stay 2 (v := ?_) rfl (by kernel_rfl) (fun _ _ _ h => h) (Or.inl ⟨by rfl, ?_⟩) ⟨R1.out, fun _ => hH1.2⟩ ?_
  rotate_left
  · (intro wx hx; have kc := run_conv_bytes (P := Tryz.prog) (src := 22) (dst := 9) (cap := cap1) Tryz.underlying22 Tryz.underlying5 Tryz.underlying9 hx; go_simp <;> with_reducible rfl)
  try simp only [Act.put, List.setIfInBounds_toArray, List.set_cons_zero, List.set_cons_succ]
  refine wpAnyT_one 4 rfl (by kernel_rfl) (fun K hQ => ?_)
  go_simp
  (go_at_call 30; refine (HP2.out _ (Lib.hid (hK9.out.later (nd.out.trans (HB1.out.mono nd.out.size))))).mono ?_; rintro e w2 ⟨A8, cap2, rfl, r2, hb⟩; have R2 := Lib.hid r2; have HB2 := Lib.hid hb; clear r2 hb)
  refine hQ.out _ _ ⟨R1.out.later HB2.out, hH1.2.1.below HB2.out hH1.2.1.lt, hH1.2.2.below HB2.out hH1.2.2.lt⟩ (fun hH2 => ?_)
  clear hQ K
  try simp only [Act.put, List.setIfInBounds_toArray, List.set_cons_zero, List.set_cons_succ]
  refine wpAnyT_mono (S0' := fun w' => Reads w' w'.heap.size 1 A8 ys.length (ys.map bv) ∧ Reads w' w'.heap.size 1 A7 ys.length (ys.map bv)) (S' := fun w' => Blk w' w.heap.size 53 m.cs ∧ Blk w' (w.heap.size + 1) 53 m9.cs) (fun _ h => h.2) (fun _ h => h) _ _ _ _ ?_
  refine wpAnyT_stay 5 (v := ?_) rfl (by kernel_rfl) (fun _ _ _ h => h) (Or.inl ⟨by rfl, ?_⟩) ⟨⟨R2.out, hH2.1⟩, fun _ => hH2.2⟩ ?_
  rotate_left
  · (intro wx hx; have kc := run_conv_bytes (P := Tryz.prog) (src := 22) (dst := 9) (cap := cap2) Tryz.underlying22 Tryz.underlying5 Tryz.underlying9 hx.1; go_simp <;> with_reducible rfl)
  try simp only [Act.put, List.setIfInBounds_toArray, List.set_cons_zero, List.set_cons_succ]
  refine wpAnyT_stay 6 (v := ?_) rfl (by kernel_rfl) (fun _ _ _ h => h) (Or.inl ⟨by rfl, ?_⟩) ⟨⟨R2.out, hH2.1⟩, fun _ => hH2.2⟩ ?_
  rotate_left
  · (intro wx hx; have h3 := H3.out; go_simp <;> with_reducible rfl)
  try simp only [Act.put, List.setIfInBounds_toArray, List.set_cons_zero, List.set_cons_succ]
  refine wpAnyT_last 7 rfl (by kernel_rfl) (by decide) (fun K hQ => ?_)
  go_simp
  refine hQ.out _ _ ⟨R2.out, hH2.1⟩ (fun hH7 => ?_)
  clear hQ K
  try simp only [Act.put, List.setIfInBounds_toArray, List.set_cons_zero, List.set_cons_succ]
  refine wpAnyT_done (by kernel_rfl) ?_ _
  clear hH hH1 hH2 hH7
  go_wp2
  go_ret
  exact ⟨rfl, (nd.out.trans (HB1.out.mono nd.out.size)).trans (HB2.out.mono (Nat.le_trans nd.out.size HB1.out.size))⟩
end Go.Proofs.YthgiafjiemiifaaGreat
end
