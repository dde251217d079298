/-
  THE PROGRAM'S READER: wastes. (printed by gen_par15.py). (joined out of PaR15 by shake.py)
-/
import Derived.Test.YthgiafjiemiifaaGreatPbk27
import Derived.Test.YthgiafjiemiifaaGreatPbk03
section
namespace Go.Proofs.YthgiafjiemiifaaGreat
open Go.RowKit OctMath
set_option linter.unusedVariables false
set_option linter.unusedSimpArgs false
def wasCs (x : WasT) : Array Value := #[.int .u64 (x.id.ver : Int), .int .i64 x.id.idx, .int .u64 (x.id.ep : Int), .int .i64 x.node]
def vWas (x : WasT) (_ : World) (v : Value) : Prop := v = .agg (wasCs x) ∧ WasOk x
set_option maxRecDepth 100000 in
set_option maxHeartbeats 4000000 in
theorem pg_waste (g : Nat) (A : Option Addr) (n cap : Nat) (bs : List Nat) (p : Nat) (b : Nat) (w : World) (hP : Hid (PG g A n cap bs p w)) (hB : Hid (Blk w b 75 #[.pointer (some ⟨g, 0, none⟩)])) (hbg : b ≠ g) :
    Calls Tryz.prog 63 #[.pointer (some ⟨b, 0, none⟩)] w (RetR (rWas bs p) vWas g A n cap bs w) := by
  have HR := Lib.hid (show rWas bs p = ((rId bs).bind fun x1 => (rInt bs).bind fun x2 => Rd.pure ⟨x1, x2⟩) p from rfl)
  obtain ⟨w0, ew0⟩ : ∃ w0, w.alloc (.cells #[.int .u64 0, .int .i64 0, .int .u64 0, .int .i64 0] 136) = w0 := ⟨_, rfl⟩
  have hs := (RS.start hP.out).alloc (.cells #[.int .u64 0, .int .i64 0, .int .u64 0, .int .i64 0] 136)
  have hx : Blk (w.alloc (.cells #[.int .u64 0, .int .i64 0, .int .u64 0, .int .i64 0] 136)) w.heap.size 136 #[.int .u64 0, .int .i64 0, .int .u64 0, .int .i64 0] := by have := Blk.new w 136 #[.int .u64 0, .int .i64 0, .int .u64 0, .int .i64 0]; simpa using this
  have hb := hB.out.alloc (.cells #[.int .u64 0, .int .i64 0, .int .u64 0, .int .i64 0] 136)
  rw [ew0] at hs hx hb
  have HS := Lib.hid hs
  have HX := Lib.hid hx
  have HB := Lib.hid hb
  have HG := Lib.hid hP.out.blk.lt
  have HBL := Lib.hid hB.out.lt
  clear hs hx hb
  have cb := HB.out.cell 0
  go_enter Tryz.func63, Tryz.ntmps63
  go_wp2_with fail
  clear ew0 cb
  refine (pg_id g A n cap bs p _ (Lib.hid HS.out.pg)).mono ?_
  cases h1 : rId bs p with
  | none =>
    rw [Rd.bind_none h1] at HR
    rintro e w1 ⟨rfl, hk⟩
    refine ⟨rfl, ?_⟩
    rw [HR.out]
    exact RetR.none_ (HS.out.kp.trans hk)
  | some x =>
    obtain ⟨x1, q1⟩ := x
    rw [Rd.bind_some h1] at HR
    rintro e w1 ⟨v, rfl, ⟨rfl, b1⟩, hp, hk⟩
    have HX := Lib.hid (hk.notBlk HX.out (by have := HG.out; omega))
    have HB := Lib.hid (hk.notBlk HB.out hbg)
    have HS := Lib.hid (HS.out.read hp hk)
    clear hp hk
    go_wp2_with fail
    obtain ⟨wa, ea⟩ : ∃ wa, w1.alloc (.cells #[.int .u64 (x1.ver : Int), .int .i64 x1.idx, .int .u64 (x1.ep : Int)] 28) = wa := ⟨_, rfl⟩
    have HX1L := Lib.hid HX.out.lt
    have hi : Blk (w1.alloc (.cells #[.int .u64 (x1.ver : Int), .int .i64 x1.idx, .int .u64 (x1.ep : Int)] 28)) w1.heap.size 28 #[.int .u64 (x1.ver : Int), .int .i64 x1.idx, .int .u64 (x1.ep : Int)] := Blk.new w1 _ _
    have hs := HS.out.alloc (.cells #[.int .u64 (x1.ver : Int), .int .i64 x1.idx, .int .u64 (x1.ep : Int)] 28)
    have hx := HX.out.alloc (.cells #[.int .u64 (x1.ver : Int), .int .i64 x1.idx, .int .u64 (x1.ep : Int)] 28)
    have hb := HB.out.alloc (.cells #[.int .u64 (x1.ver : Int), .int .i64 x1.idx, .int .u64 (x1.ep : Int)] 28)
    have hgi : w1.heap.size ≠ g := by have := HS.out.pg.blk.lt; omega
    rw [ea] at hi hs hx hb ⊢
    have HI := Lib.hid hi
    have HS := Lib.hid hs
    have HX := Lib.hid hx
    have HB := Lib.hid hb
    clear hi hs hx hb ea
    have cb := HB.out.cell 0
    have u0 := HI.out.cell 0
    have u1 := HI.out.cell 1
    have u2 := HI.out.cell 2
    have HSD := Lib.hid ((HS.out.read HS.out.pg.drew keep_drew : RS g A n cap bs w q1 wa.drew))
    have HID := Lib.hid ((keep_drew (H := Not g) (w := wa)).notBlk HI.out hgi)
    have HXD := Lib.hid ((keep_drew (H := Not g) (w := wa)).notBlk HX.out (by have := HG.out; omega))
    have HBD := Lib.hid ((keep_drew (H := Not g) (w := wa)).notBlk HB.out hbg)
    have hxi := Lib.hid (show w.heap.size ≠ w1.heap.size from by have := HX1L.out; omega)
    have hxg := Lib.hid (show w.heap.size ≠ g from by have := HG.out; omega)
    have hbx := Lib.hid (show b ≠ w.heap.size from by have := HBL.out; omega)
    have HGI := Lib.hid hgi
    have HBG := Lib.hid hbg
    clear u0 u1 u2 cb hgi
    refine wp_region_late (S0 := fun w' => Blk w' w1.heap.size 28 #[.int .u64 (x1.ver : Int), .int .i64 x1.idx, .int .u64 (x1.ep : Int)] ∧ w'.cell? ⟨b, 0, none⟩ = some (.pointer (some ⟨g, 0, none⟩))) (S := fun _ => True) 4 5 (by kernel_rfl) rfl ⟨⟨HID.out, HBD.out.cell 0⟩, trivial⟩ (fun wd hwd hH => ?_)
    rw [← hwd] at HSD HID HXD HBD
    clear hwd HS HX HB HI
    refine wpAnyT_stay 0 rfl (by kernel_rfl) (fun _ _ _ h => h) (yields_load_blk rfl 28 (.tmp 2) rfl w1.heap.size 28 #[.int .u64 (x1.ver : Int), .int .i64 x1.idx, .int .u64 (x1.ep : Int)] _ rfl (fun w' hw' => hw'.1) Tryz.underlying28 rfl Tryz.sizeI) ⟨hH.1, fun _ => hH.2⟩ ?_
    try simp only [Act.put, List.setIfInBounds_toArray, List.set_cons_zero, List.set_cons_succ]
    refine wpAnyT_stay 1 (v := ?_) rfl (by kernel_rfl) (fun _ _ _ h => h) (Or.inl ⟨by rfl, ?_⟩) ⟨hH.1, fun _ => hH.2⟩ ?_
    rotate_left
    · (intro wx hx; obtain ⟨hx1, hx2⟩ := hx; clear hx1; go_simp <;> with_reducible rfl)
    try simp only [Act.put, List.setIfInBounds_toArray, List.set_cons_zero, List.set_cons_succ]
    refine wpAnyT_one 2 rfl (by kernel_rfl) (fun K hK => ?_)
    rw [if_pos (by rfl)]
    go_simp
    go_at_call 43
    refine (pg_int g A n cap bs q1 _ (Lib.hid HSD.out.pg)).mono ?_
    cases h2 : rInt bs q1 with
    | none =>
      rw [Rd.bind_none h2] at HR
      rintro e w3 ⟨rfl, hk⟩
      refine ⟨rfl, ?_⟩
      rw [HR.out]
      exact RetR.none_ (HSD.out.kp.trans hk)
    | some y =>
      obtain ⟨x2, q2⟩ := y
      rw [Rd.bind_some h2] at HR
      rintro e w3 ⟨v, rfl, ⟨rfl, b2⟩, hp, hk⟩
      have HX3 := Lib.hid (hk.notBlk HXD.out hxg.out)
      have HI3 := Lib.hid (hk.notBlk HID.out HGI.out)
      have HB3 := Lib.hid (hk.notBlk HBD.out HBG.out)
      have HS3 := Lib.hid (HSD.out.read hp hk)
      clear hp hk
      refine hK.out _ _ ⟨⟨HI3.out, HB3.out.cell 0⟩, trivial⟩ (fun hH3 => ?_)
      clear hK K
      try simp only [Act.put, List.setIfInBounds_toArray, List.set_cons_zero, List.set_cons_succ]
      refine wpAnyT_stay 3 (v := ?_) rfl (by kernel_rfl) (fun _ _ _ h => h) (Or.inl ⟨by rfl, ?_⟩) ⟨hH3.1, fun _ => hH3.2⟩ ?_
      rotate_left
      · (intro wx hx; clear hx; go_simp <;> with_reducible rfl)
      try simp only [Act.put, List.setIfInBounds_toArray, List.set_cons_zero, List.set_cons_succ]
      refine wpAnyT_last 4 rfl (by kernel_rfl) (by decide) (fun K hK => ?_)
      refine step_store_blk rfl 136 (.tmp 1) (.tmp 8) rfl w.heap.size 136 #[.int .u64 0, .int .i64 0, .int .u64 0, .int .i64 0] (wasCs ⟨x1, x2⟩) rfl rfl HX3.out rfl Tryz.sizeWa rfl ?_
      intro wf hB hO
      refine hK.out _ _ ⟨hO.out.blk HI3.out hxi.out.symm, ((hO.out.blk HB3.out hbx.out).cell 0)⟩ (fun hH4 => ?_)
      clear hK K
      try simp only [Act.put, List.setIfInBounds_toArray, List.set_cons_zero, List.set_cons_succ]
      refine wpAnyT_done (by kernel_rfl) ?_ _
      clear hH hH3 hH4
      go_wp2_with fail
      have HS := Lib.hid (HS3.out.only hP.out (by have := HG.out; omega) hO.out)
      refine bodyPost_ret (v := .agg (wasCs ⟨x1, x2⟩)) (res_c Tryz.results63 rfl (load_blk hB.out Tryz.underlying136 rfl Tryz.sizeWa)) rfl ?_
      rw [HR.out]
      exact RetR.some_ ⟨rfl, b1, b2⟩ HS.out.pg HS.out.kp
theorem Tryz.infoWas : (Tryz.prog.info? 136).map (fun i => (i.zero, i.size, i.bytes)) = some (some (.agg #[.int .u64 0, .int .i64 0, .int .u64 0, .int .i64 0]), 4, 32) := by kernel_rfl
def wasL (x : WasT) : List Value := (wasCs x).toList
def vWass (lo : Nat) (xs : List WasT) (w : World) (v : Value) : Prop := ∃ A c, v = .slice A xs.length c ∧ Lst lo 4 A c xs.length (xs.flatMap wasL) w ∧ (∀ x ∈ xs, WasOk x) ∧ xs.length ≤ 1048576
set_option maxRecDepth 100000 in
set_option maxHeartbeats 2000000 in
theorem pg_wastes (g : Nat) (A : Option Addr) (n cap : Nat) (bs : List Nat) (p : Nat) (w : World) (hP : Hid (PG g A n cap bs p w)) (b : Nat) (HBX : Hid (Blk w b 75 #[.pointer (some ⟨g, 0, none⟩)])) (hbg : Hid (b ≠ g)) :
    Calls Tryz.prog 62 #[.pointer (some ⟨g, 0, none⟩), .func (.func 63) #[] #[.pointer (some ⟨b, 0, none⟩)]] w (RetR (rList bs (rWas bs) p) (vWass w.heap.size) g A n cap bs w) := by
  have HR := Lib.hid (show rList bs (rWas bs) p = (rNum bs).bind (fun n p => if 1048576 < n ∨ bs.length - p < n then none else rTimes (rWas bs) n p) p from rfl)
  have HC := Lib.hid (pg_number g A n cap bs p w hP)
  cases hq : rNum bs p with
  | none =>
    rw [hq] at HC
    rw [Rd.bind_none hq] at HR
    go_enter Tryz.func62, Tryz.ntmps62
    go_wp2_with (go_at_call 42; refine HC.out.mono ?_; rintro e w1 ⟨rfl, hk⟩; have HK := Lib.hid hk; clear hk)
    refine ⟨rfl, ?_⟩
    rw [HR.out]
    exact RetR.none_ HK.out
  | some x =>
    obtain ⟨m, p0⟩ := x
    rw [hq] at HC
    rw [Rd.bind_some hq] at HR
    have hlen := hP.out.len
    have hn9 := hP.out.reach
    rw [hlen] at HR
    by_cases hm : 1048576 < m
    · rw [if_pos (.inl hm)] at HR
      have d1 : decide ((m : Int) > 1048576) = true := decide_eq_true (by omega)
      have d2 : decide (1048576 < m) = true := decide_eq_true hm
      clear hlen hn9 hm
      go_enter Tryz.func62, Tryz.ntmps62
      go_wp2_with (go_at_call 42; refine HC.out.mono ?_; rintro e w1 ⟨v, rfl, ⟨rfl, hx⟩, hp1, hk⟩; have HP1 := Lib.hid hp1; have HK := Lib.hid hk; have c0 := hp1.blk.cell 0; have c1 := hp1.blk.cell 1; clear hp1 hk)
      go_region
      go_wp2
      refine ⟨rfl, ?_⟩
      rw [HR.out]
      exact RetR.none_ (HK.out.trans keep_drew)
    · have d1 : decide ((m : Int) > 1048576) = false := decide_eq_false (by omega)
      have d2 : decide (1048576 < m) = false := decide_eq_false hm
      have hm1 : m ≤ 1048576 := by omega
      clear hm
      have hp0 := rNum_le hP.out.byt hq
      rw [hlen] at hp0
      obtain ⟨d, ed⟩ : ∃ d, n - p0 = d := ⟨_, rfl⟩
      have e1 : IntKind.i64.wrap ((n : Int) - (p0 : Int)) = (d : Int) := by rw [IntKind.wrap_i64]; omega
      have e2 : IntKind.u64.wrap (d : Int) = (d : Int) := by rw [IntKind.wrap_u64]; omega
      have e3 : IntKind.u64.wrap ((n : Int) - (p0 : Int)) = (d : Int) := by rw [IntKind.wrap_u64]; omega
      rw [ed] at HR
      have hdn : d ≤ n := by omega
      clear ed hp0 hlen hn9
      by_cases hm2 : d < m
      · rw [if_pos (.inr hm2)] at HR
        have d3 : decide ((m : Int) > (d : Int)) = true := decide_eq_true (by omega)
        have d4 : decide (d < m) = true := decide_eq_true hm2
        clear hm1 hm2 hdn
        go_enter Tryz.func62, Tryz.ntmps62
        go_wp2_with (go_at_call 42; refine HC.out.mono ?_; rintro e w1 ⟨v, rfl, ⟨rfl, hx⟩, hp1, hk⟩; have HP1 := Lib.hid hp1; have HK := Lib.hid hk; have c0 := hp1.blk.cell 0; have c1 := hp1.blk.cell 1; clear hp1 hk)
        go_region
        go_wp2
        refine ⟨rfl, ?_⟩
        rw [HR.out]
        exact RetR.none_ (HK.out.trans keep_drew)
      · rw [if_neg (by omega)] at HR
        have d3 : decide ((m : Int) > (d : Int)) = false := decide_eq_false (by omega)
        have d4 : decide (d < m) = false := decide_eq_false hm2
        clear hdn hm2
        go_enter Tryz.func62, Tryz.ntmps62
        go_wp2_with (go_at_call 42; refine HC.out.mono ?_; rintro e w1 ⟨v, rfl, ⟨rfl, hx⟩, hp1, hk⟩; have HP1 := Lib.hid hp1; have HK := Lib.hid hk; have c0 := hp1.blk.cell 0; have c1 := hp1.blk.cell 1; clear hp1 hk)
        go_region
        clear c0 c1 e1 e2 e3 d3 d4
        go_wp2
        obtain ⟨w2, ew2⟩ : ∃ w2, w1.drew = w2 := ⟨_, rfl⟩
        have hp2 := HP1.out.drew
        have hk2 : Keep (Not g) w w1.drew := HK.out.trans keep_drew
        rw [ew2] at hp2 hk2 ⊢
        have HP2 := Lib.hid hp2
        have HK2 := Lib.hid hk2
        clear ew2 HP1 HK hp2 hk2 HC
        have hg2 := Lib.hid HP2.out.blk.lt
        have hst0 := Lib.hid (LiR.start 136 4 HP2.out)
        have HBX := Lib.hid (HK2.out.notBlk HBX.out hbg.out)
        clear hP
        go_loopw [6, 29] (fun vo vi wr => ∃ (k q : Nat) (xs : List WasT), k ≤ m ∧ vi = .int .u64 k ∧ Hid (rTimes (rWas bs) k p0 = some (xs, q)) ∧ Hid (∀ x ∈ xs, WasOk x) ∧ Hid (LiR g A n cap bs w2 136 4 vo k (xs.flatMap wasL) q wr)) (fun _ vi _ => m - (intOf vi).toNat)
        case atStart => exact ⟨0, p0, [], by omega, rfl, Lib.hid rfl, Lib.hid (fun x hx => by cases hx), hst0⟩
        case round =>
          obtain ⟨k, q, xs, hk, rfl, hT, hX, hst⟩ := hrel
          clear hst0
          by_cases hlt : k < m
          · have d3 : decide (k < m) = true := decide_eq_true hlt
            have HI := Lib.hid (pg_waste g A n cap bs q b wr (Lib.hid hst.out.pg) (Lib.hid (hst.out.kp.notBlk HBX.out hbg.out)) hbg.out)
            cases hx1 : rWas bs q with
            | none =>
              rw [hx1] at HI
              have HN := Lib.hid (rTimes_none (rTimes_end hT.out hx1) (m := m) (by omega))
              go_wp2_with (go_at_call 63; refine HI.out.mono ?_; rintro e w3 ⟨rfl, hk3⟩; have HK3 := Lib.hid hk3; clear hk3)
              refine ⟨rfl, ?_⟩
              rw [HR.out, HN.out]
              exact RetR.none_ ((HK2.out.trans hst.out.kp).trans HK3.out)
            | some y =>
              obtain ⟨x, q'⟩ := y
              rw [hx1] at HI
              have HT1 := Lib.hid (rTimes_more hT.out hx1)
              go_wp2_with (first
                | (go_at_call 63; refine HI.out.mono ?_; rintro e w3 ⟨v, rfl, ⟨rfl, b7⟩, hp3, hk3⟩; unfold wasCs; have HX1 := Lib.hid b7; have hst3 := Lib.hid (hst.out.read hg2.out hp3 hk3); clear hp3 hk3 b7)
                | (at_builtin
                   refine wpl_li rfl _ _ 51 _ 32 Tryz.underlying51 Tryz.infoWas rfl (by decide) (by decide) rfl hst3.out HP2.out (by omega) [.int .u64 (x.id.ver : Int), .int .i64 x.id.idx, .int .u64 (x.id.ep : Int), .int .i64 x.node] rfl (by intro u hu; simp only [List.mem_cons, List.not_mem_nil, or_false] at hu; rcases hu with rfl | rfl | rfl | rfl <;> rfl) rfl rfl ?_
                   intro v4 w4 hst4))
              refine ⟨⟨k + 1, q', xs ++ [x], by omega, by go_num, HT1, Lib.hid (fun y hy => ?_), ?_⟩, by simp [intOf]; omega⟩
              · rcases List.mem_append.1 hy with h | h
                · exact hX.out y h
                · rw [List.mem_singleton.1 h]; exact HX1.out
              · rw [List.flatMap_append]; exact hst4
          · obtain rfl : k = m := by omega
            go_wp2
            go_ret
            rw [HR.out, hT.out]
            have hl := rTimes_len hT.out
            subst hl
            obtain ⟨A1, k1, rfl, hl1⟩ := hst.out.list HK2.out.size
            exact RetR.some_ ⟨A1, k1, rfl, hl1, hX.out, hm1⟩ hst.out.pg (HK2.out.trans hst.out.kp)
end Go.Proofs.YthgiafjiemiifaaGreat
end
