/-
  THE PROGRAM'S READER: members, maps. (printed by gen_par6.py); THE PROGRAM'S READER: maps. (printed by gen_par6.py); OBJECTS, INTENTS, SESSIONS, WASTES, STATES IN MEMORY: their cells. (joined out of PaR8, PaR9, MeO by shake.py)
-/
import Derived.Test.YtijdbdenmcjmmaaGreatDoorNen07
import Derived.Test.YtijdbdenmcjmmaaGreatDoorNen06
section
namespace Go.Proofs.YtijdbdenmcjmmaaGreatDoor
open Go.RowKit OctMath
set_option linter.unusedVariables false
theorem mcells_append (a b : List (Int × Int)) : mcells (a ++ b) = mcells a ++ mcells b := by unfold mcells; rw [List.flatMap_append]
def vMem (x : Int × Int) (_ : World) (v : Value) : Prop := v = .agg #[.int .i64 x.1, .int .i64 x.2] ∧ MemOk x
def vMems (lo : Nat) (x : List (Int × Int)) (w : World) (v : Value) : Prop := ∃ A c, v = .slice A x.length c ∧ Lst lo 2 A c x.length (mcells x) w ∧ (∀ y ∈ x, MemOk y) ∧ x.length ≤ 1048576
theorem Tryz.infoMem : (Tryz.prog.info? 214).map (fun i => (i.zero, i.size, i.bytes)) = some (some (.agg #[.int .i64 0, .int .i64 0]), 2, 16) := by kernel_rfl
theorem Tryz.sizeMe : (Tryz.prog.info? 214).map (·.size) = some 2 := by kernel_rfl
set_option maxRecDepth 100000 in
set_option maxHeartbeats 4000000 in
theorem pg_member (g : Nat) (A : Option Addr) (n cap : Nat) (bs : List Nat) (p : Nat) (w : World) (hP : Hid (PG g A n cap bs p w)) (b : Nat) (HB : Hid (Blk w b 115 #[.pointer (some ⟨g, 0, none⟩)])) (hbg : Hid (b ≠ g)) :
    Calls Tryz.prog 111 #[.pointer (some ⟨b, 0, none⟩)] w (RetR (rMem bs p) vMem g A n cap bs w) := by
  have HR := Lh (show rMem bs p = ((rInt bs).bind fun i => (rInt bs).bind fun w => Rd.pure (i, w)) p from rfl)
  obtain ⟨w0, ew0⟩ : ∃ w0, w.alloc (.cells #[.int .i64 0, .int .i64 0] 214) = w0 := ⟨_, rfl⟩
  have hs := (RS.start hP.out).alloc (.cells #[.int .i64 0, .int .i64 0] 214)
  have hx : Blk (w.alloc (.cells #[.int .i64 0, .int .i64 0] 214)) w.heap.size 214 #[.int .i64 0, .int .i64 0] := by have := Blk.new w 214 #[.int .i64 0, .int .i64 0]; simpa using this
  have hbb := HB.out.alloc (.cells #[.int .i64 0, .int .i64 0] 214)
  rw [ew0] at hs hx hbb
  have HB := Lh hbb
  have cb := hbb.cell 0
  clear hbb
  have HS := Lh hs
  have HX := Lh hx
  have HG := Lh hP.out.blk.lt
  clear hs hx
  go_enter Tryz.func111, Tryz.ntmps111
  go_wp2_with fail
  clear ew0 cb
  refine (pg_int g A n cap bs p _ (Lh HS.out.pg)).mono ?_
  cases h1 : rInt bs p with
  | none =>
    rw [Rd.bind_none h1] at HR
    rintro e w1 ⟨rfl, hk⟩
    refine ⟨rfl, ?_⟩
    rw [HR.out]
    exact RetR.none_ (HS.out.kp.trans hk)
  | some x =>
    obtain ⟨x1, q1⟩ := x
    rw [Rd.bind_some h1] at HR
    rintro e w1 ⟨v, rfl, ⟨rfl, b1⟩, hp, hk⟩
    have HB := Lh (hk.notBlk HB.out hbg.out)
    have cb := HB.out.cell 0
    have HX := Lh (hk.notBlk HX.out (by have := HG.out; omega))
    have HS := Lh (HS.out.read hp hk)
    clear hp hk
    go_wp2_with fail
    refine (pg_int g A n cap bs q1 _ (Lh HS.out.pg)).mono ?_
    cases h2 : rInt bs q1 with
    | none =>
      rw [Rd.bind_none h2] at HR
      rintro e w2 ⟨rfl, hk⟩
      refine ⟨rfl, ?_⟩
      rw [HR.out]
      exact RetR.none_ (HS.out.kp.trans hk)
    | some x =>
      obtain ⟨x2, q2⟩ := x
      rw [Rd.bind_some h2] at HR
      rintro e w2 ⟨v, rfl, ⟨rfl, b2⟩, hp, hk⟩
      have HB := Lh (hk.notBlk HB.out hbg.out)
      have cb := HB.out.cell 0
      have HX := Lh (hk.notBlk HX.out (by have := HG.out; omega))
      have HS := Lh (HS.out.read hp hk)
      clear hp hk
      go_wp2_with (refine wpl_store_blk rfl 214 (.tmp 1) (.tmp 8) rfl w.heap.size 214 _ #[.int .i64 x1, .int .i64 x2] rfl rfl HX.out rfl Tryz.sizeMe rfl ?_; intro wf hB hO)
      have HS := Lh (HS.out.only hP.out (by omega) hO.out)
      refine bodyPost_ret (v := .agg #[.int .i64 x1, .int .i64 x2]) (res_c Tryz.results111 rfl (load_blk hB.out Tryz.underlying214 rfl Tryz.sizeMe)) rfl ?_
      rw [HR.out]
      exact RetR.some_ ⟨rfl, b1, b2⟩ HS.out.pg HS.out.kp
set_option maxRecDepth 100000 in
set_option maxHeartbeats 2000000 in
theorem pg_mems (g : Nat) (A : Option Addr) (n cap : Nat) (bs : List Nat) (p : Nat) (w : World) (hP : Hid (PG g A n cap bs p w)) (b : Nat) (HBX : Hid (Blk w b 115 #[.pointer (some ⟨g, 0, none⟩)])) (hbg : Hid (b ≠ g)) :
    Calls Tryz.prog 110 #[.pointer (some ⟨g, 0, none⟩), .func (.func 111) #[] #[.pointer (some ⟨b, 0, none⟩)]] w (RetR (rList bs (rMem bs) p) (vMems w.heap.size) g A n cap bs w) := by
  have HR := Lh (show rList bs (rMem bs) p = (rNum bs).bind (fun n p => if 1048576 < n ∨ bs.length - p < n then none else rTimes (rMem bs) n p) p from rfl)
  have HC := Lh (pg_number g A n cap bs p w hP)
  cases hq : rNum bs p with
  | none =>
    rw [hq] at HC
    rw [Rd.bind_none hq] at HR
    go_enter Tryz.func110, Tryz.ntmps110
    go_wp2_with (go_at_call 69; refine HC.out.mono ?_; rintro e w1 ⟨rfl, hk⟩; have HK := Lh hk; clear hk)
    refine ⟨rfl, ?_⟩
    rw [HR.out]
    exact RetR.none_ HK.out
  | some x =>
    obtain ⟨m, p0⟩ := x
    rw [hq] at HC
    rw [Rd.bind_some hq] at HR
    have hlen := hP.out.len
    have hn9 := hP.out.reach
    rw [hlen] at HR
    by_cases hm : 1048576 < m
    · rw [if_pos (.inl hm)] at HR
      have d1 : decide ((m : Int) > 1048576) = true := decide_eq_true (by omega)
      have d2 : decide (1048576 < m) = true := decide_eq_true hm
      clear hlen hn9 hm
      go_enter Tryz.func110, Tryz.ntmps110
      go_wp2_with (go_at_call 69; refine HC.out.mono ?_; rintro e w1 ⟨v, rfl, ⟨rfl, hx⟩, hp1, hk⟩; have HP1 := Lh hp1; have HK := Lh hk; have c0 := hp1.blk.cell 0; have c1 := hp1.blk.cell 1; clear hp1 hk)
      go_region
      go_wp2
      refine ⟨rfl, ?_⟩
      rw [HR.out]
      exact RetR.none_ (HK.out.trans keep_drew)
    · have d1 : decide ((m : Int) > 1048576) = false := decide_eq_false (by omega)
      have d2 : decide (1048576 < m) = false := decide_eq_false hm
      have hm1 : m ≤ 1048576 := by omega
      clear hm
      have hp0 := rNum_le hP.out.byt hq
      rw [hlen] at hp0
      obtain ⟨d, ed⟩ : ∃ d, n - p0 = d := ⟨_, rfl⟩
      have e1 : IntKind.i64.wrap ((n : Int) - (p0 : Int)) = (d : Int) := by rw [IntKind.wrap_i64]; omega
      have e2 : IntKind.u64.wrap (d : Int) = (d : Int) := by rw [IntKind.wrap_u64]; omega
      have e3 : IntKind.u64.wrap ((n : Int) - (p0 : Int)) = (d : Int) := by rw [IntKind.wrap_u64]; omega
      rw [ed] at HR
      have hdn : d ≤ n := by omega
      clear ed hp0 hlen hn9
      by_cases hm2 : d < m
      · rw [if_pos (.inr hm2)] at HR
        have d3 : decide ((m : Int) > (d : Int)) = true := decide_eq_true (by omega)
        have d4 : decide (d < m) = true := decide_eq_true hm2
        clear hm1 hm2 hdn
        go_enter Tryz.func110, Tryz.ntmps110
        go_wp2_with (go_at_call 69; refine HC.out.mono ?_; rintro e w1 ⟨v, rfl, ⟨rfl, hx⟩, hp1, hk⟩; have HP1 := Lh hp1; have HK := Lh hk; have c0 := hp1.blk.cell 0; have c1 := hp1.blk.cell 1; clear hp1 hk)
        go_region
        go_wp2
        refine ⟨rfl, ?_⟩
        rw [HR.out]
        exact RetR.none_ (HK.out.trans keep_drew)
      · rw [if_neg (by omega)] at HR
        have d3 : decide ((m : Int) > (d : Int)) = false := decide_eq_false (by omega)
        have d4 : decide (d < m) = false := decide_eq_false hm2
        clear hdn hm2
        go_enter Tryz.func110, Tryz.ntmps110
        go_wp2_with (go_at_call 69; refine HC.out.mono ?_; rintro e w1 ⟨v, rfl, ⟨rfl, hx⟩, hp1, hk⟩; have HP1 := Lh hp1; have HK := Lh hk; have c0 := hp1.blk.cell 0; have c1 := hp1.blk.cell 1; clear hp1 hk)
        go_region
        clear c0 c1 e1 e2 e3 d3 d4
        go_wp2
        obtain ⟨w2, ew2⟩ : ∃ w2, w1.drew = w2 := ⟨_, rfl⟩
        have hp2 := HP1.out.drew
        have hk2 : Keep (Not g) w w1.drew := HK.out.trans keep_drew
        rw [ew2] at hp2 hk2 ⊢
        have HP2 := Lh hp2
        have HK2 := Lh hk2
        clear ew2 HP1 HK hp2 hk2 HC
        have HB := Lh hP.out.byt
        have hg2 := Lh HP2.out.blk.lt
        have hst0 := Lh (LiR.start 214 2 HP2.out)
        have HBX := Lh (HK2.out.notBlk HBX.out hbg.out)
        clear hP
        go_loopw [6, 29] (fun vo vi wr => ∃ (k q : Nat) (xs : List (Int × Int)), k ≤ m ∧ vi = .int .u64 k ∧ Hid (rTimes (rMem bs) k p0 = some (xs, q)) ∧ Hid (∀ x ∈ xs, MemOk x) ∧ Hid (LiR g A n cap bs w2 214 2 vo k (mcells xs) q wr)) (fun _ vi _ => m - (intOf vi).toNat)
        case atStart => exact ⟨0, p0, [], by omega, rfl, Lh rfl, Lh (fun x hx => by cases hx), hst0⟩
        case round =>
          obtain ⟨k, q, xs, hk, rfl, hT, hX, hst⟩ := hrel
          clear hst0
          by_cases hlt : k < m
          · have d3 : decide (k < m) = true := decide_eq_true hlt
            have HI := Lh (pg_member g A n cap bs q wr (Lh hst.out.pg) b (Lh (hst.out.kp.notBlk HBX.out hbg.out)) hbg)
            cases hx1 : rMem bs q with
            | none =>
              rw [hx1] at HI
              have HN := Lh (rTimes_none (rTimes_end hT.out hx1) (m := m) (by omega))
              go_wp2_with (go_at_call 111; refine HI.out.mono ?_; rintro e w3 ⟨rfl, hk3⟩; have HK3 := Lh hk3; clear hk3)
              refine ⟨rfl, ?_⟩
              rw [HR.out, HN.out]
              exact RetR.none_ ((HK2.out.trans hst.out.kp).trans HK3.out)
            | some y =>
              obtain ⟨x, q'⟩ := y
              rw [hx1] at HI
              have HT1 := Lh (rTimes_more hT.out hx1)
              obtain ⟨x, x2⟩ := x
              go_wp2_with (first
                | (go_at_call 111; refine HI.out.mono ?_; rintro e w3 ⟨v, rfl, ⟨rfl, hmo⟩, hp3, hk3⟩; have HX1 := Lh hmo; have hst3 := Lh (hst.out.read hg2.out hp3 hk3); clear hp3 hk3 hmo)
                | (at_builtin
                   refine wpl_li rfl _ _ 80 _ 16 Tryz.underlying80 Tryz.infoMem rfl (by decide) (by decide) rfl hst3.out HP2.out (by omega) [.int .i64 x, .int .i64 x2] rfl (by intro u hu; simp only [List.mem_cons, List.not_mem_nil, or_false] at hu; rcases hu with rfl | rfl <;> rfl) rfl rfl ?_
                   intro v4 w4 hst4))
              refine ⟨⟨k + 1, q', xs ++ [(x, x2)], by omega, by go_num, HT1, Lh (fun y hy => ?_), ?_⟩, by simp [intOf]; omega⟩
              · rcases List.mem_append.1 hy with h | h
                · exact hX.out y h
                · rw [List.mem_singleton.1 h]; exact HX1.out
              · rw [mcells_append]; exact hst4
          · obtain rfl : k = m := by omega
            go_wp2
            go_ret
            rw [HR.out, hT.out]
            have hl := rTimes_len hT.out
            subst hl
            obtain ⟨A1, k1, rfl, hl1⟩ := hst.out.list HK2.out.size
            exact RetR.some_ ⟨A1, k1, rfl, hl1, hX.out, hm1⟩ hst.out.pg (HK2.out.trans hst.out.kp)
end Go.Proofs.YtijdbdenmcjmmaaGreatDoor
end
section
namespace Go.Proofs.YtijdbdenmcjmmaaGreatDoor
open Go.RowKit OctMath
set_option linter.unusedVariables false
theorem Tryz.sizeMa : (Tryz.prog.info? 82).map (·.size) = some 2 := by kernel_rfl
def vMap (lo : Nat) (x : Nat × List (Int × Int)) (w : World) (v : Value) : Prop := ∃ A c, v = .agg #[.int .u64 (x.1 : Int), .slice A x.2.length c] ∧ Lst lo 2 A c x.2.length (mcells x.2) w ∧ (x.1 < 18446744073709551616 ∧ (∀ y ∈ x.2, MemOk y) ∧ x.2.length ≤ 1048576)
set_option maxRecDepth 100000 in
set_option maxHeartbeats 4000000 in
theorem pg_map (g : Nat) (A : Option Addr) (n cap : Nat) (bs : List Nat) (p : Nat) (w : World) (hP : Hid (PG g A n cap bs p w)) :
    Calls Tryz.prog 101 #[.pointer (some ⟨g, 0, none⟩)] w (RetR (rMap bs p) (vMap w.heap.size) g A n cap bs w) := by
  have HR := Lh (show rMap bs p = ((rNum bs).bind fun e => (rList bs (rMem bs)).bind fun l => Rd.pure (e, l)) p from rfl)
  obtain ⟨w0, ew0⟩ : ∃ w0, (w.alloc (.cells #[.pointer (some ⟨g, 0, none⟩)] 115)).alloc (.cells #[.int .u64 0, .slice none 0 0] 82) = w0 := ⟨_, rfl⟩
  have hs := ((RS.start hP.out).alloc (.cells #[.pointer (some ⟨g, 0, none⟩)] 115)).alloc (.cells #[.int .u64 0, .slice none 0 0] 82)
  have hx : Blk ((w.alloc (.cells #[.pointer (some ⟨g, 0, none⟩)] 115)).alloc (.cells #[.int .u64 0, .slice none 0 0] 82)) (w.heap.size + 1) 82 #[.int .u64 0, .slice none 0 0] := by have := Blk.new (w.alloc (.cells #[.pointer (some ⟨g, 0, none⟩)] 115)) 82 #[.int .u64 0, .slice none 0 0]; simpa using this
  have hbb := (Blk.new w 115 #[.pointer (some ⟨g, 0, none⟩)]).alloc (.cells #[.int .u64 0, .slice none 0 0] 82)
  have hbg := Lh (Nat.ne_of_gt hP.out.blk.lt)
  rw [ew0] at hs hx hbb
  have HB := Lh hbb
  have cb := hbb.cell 0
  clear hbb
  have HS := Lh hs
  have HX := Lh hx
  have HG := Lh hP.out.blk.lt
  clear hs hx
  go_enter Tryz.func101, Tryz.ntmps101
  go_wp2_with fail
  clear ew0 cb
  refine (pg_number g A n cap bs p _ (Lh HS.out.pg)).mono ?_
  cases h1 : rNum bs p with
  | none =>
    rw [Rd.bind_none h1] at HR
    rintro e w1 ⟨rfl, hk⟩
    refine ⟨rfl, ?_⟩
    rw [HR.out]
    exact RetR.none_ (HS.out.kp.trans hk)
  | some x =>
    obtain ⟨x1, q1⟩ := x
    rw [Rd.bind_some h1] at HR
    rintro e w1 ⟨v, rfl, ⟨rfl, b1⟩, hp, hk⟩
    have HB := Lh (hk.notBlk HB.out hbg.out)
    have cb := HB.out.cell 0
    have HX := Lh (hk.notBlk HX.out (by have := HG.out; omega))
    have HS := Lh (HS.out.read hp hk)
    clear hp hk
    have HXY := Lh HX.out.lt
    go_wp2_with (refine wpl_store_blk rfl 82 (.tmp 3) (.tmp 6) rfl w1.heap.size 82 #[.int .u64 0, .slice none 0 0] #[.int .u64 (x1 : Int), .slice none 0 0] rfl rfl (Blk.new w1 _ _) rfl Tryz.sizeMa rfl ?_; intro wa hB hO; have cb := (hO.out.blk (HB.out.alloc _) (by have := HXY.out; omega)).cell 0)
    have HB := Lh (hO.out.blk (HB.out.alloc _) (by have := HXY.out; omega))
    have HX := Lh (hO.out.blk (HX.out.alloc _) (Nat.ne_of_lt HXY.out))
    have HS := Lh ((HS.out.alloc _).only hP.out (by have := HXY.out; omega) hO.out)
    have HY := Lh hB.out
    clear hB hO
    refine (pg_mems g A n cap bs q1 _ (Lh HS.out.pg) w.heap.size HB hbg).mono ?_
    cases h2 : rList bs (rMem bs) q1 with
    | none =>
      rw [Rd.bind_none h2] at HR
      rintro e w2 ⟨rfl, hk⟩
      refine ⟨rfl, ?_⟩
      rw [HR.out]
      exact RetR.none_ (HS.out.kp.trans hk)
    | some x =>
      obtain ⟨x2, q2⟩ := x
      rw [Rd.bind_some h2] at HR
      rintro e w2 ⟨v, rfl, ⟨A2, c2, rfl, l2, b2⟩, hp, hk⟩
      have axL2 := Lh (l2.apart_lo HX.out.lt)
      have ayL2 := Lh (l2.apart_lo HY.out.lt)
      have L2 := Lh (l2.mono HS.out.kp.size)
      clear l2
      have HB := Lh (hk.notBlk HB.out hbg.out)
      have cb := HB.out.cell 0
      have HX := Lh (hk.notBlk HX.out (by have := HG.out; omega))
      have HY := Lh (hk.notBlk HY.out (by have := HG.out; have := HXY.out; omega))
      have HS := Lh (HS.out.read hp hk)
      clear hp hk
      have cy0 := HY.out.cell 1
      have fy := HY.out.frozen
      have hO := (Only.set_ w2 w1.heap.size 1 (.slice A2 x2.length c2))
      have hB : Blk (w2.setCell ⟨w1.heap.size, 1, none⟩ (.slice A2 x2.length c2)) w1.heap.size 82 #[.int .u64 (x1 : Int), .slice A2 x2.length c2] := by have := (HY.out.set_ 1 (.slice A2 x2.length c2)); simpa using this
      have L2 := Lh (L2.out.only hO ayL2.out)
      have HB := Lh (hO.blk HB.out (by have := HXY.out; omega))
      have HX := Lh (hO.blk HX.out (Nat.ne_of_lt HXY.out))
      have HS := Lh (HS.out.only hP.out (by have := HXY.out; omega) hO)
      have HY := Lh hB
      clear hO hB
      go_wp2_with (first | (refine wpl_load_blk rfl 82 (.tmp 3) rfl w1.heap.size 82 _ _ rfl HY.out Tryz.underlying82 rfl Tryz.sizeMa ?_) | (refine wpl_store_blk rfl 82 (.tmp 2) (.tmp 11) rfl (w.heap.size + 1) 82 _ #[.int .u64 (x1 : Int), .slice A2 x2.length c2] rfl rfl HX.out rfl Tryz.sizeMa rfl ?_; intro wf hB hO))
      have HS := Lh (HS.out.only hP.out (by omega) hO.out)
      have L2 := Lh (L2.out.only hO.out axL2.out)
      refine bodyPost_ret (v := .agg #[.int .u64 (x1 : Int), .slice A2 x2.length c2]) (res_c Tryz.results101 rfl (load_blk hB.out Tryz.underlying82 rfl Tryz.sizeMa)) rfl ?_
      rw [HR.out]
      exact RetR.some_ ⟨A2, c2, rfl, L2.out, b1, b2⟩ HS.out.pg HS.out.kp
end Go.Proofs.YtijdbdenmcjmmaaGreatDoor
end
section
namespace Go.Proofs.YtijdbdenmcjmmaaGreatDoor
open Go.RowKit OctMath
set_option linter.unusedVariables false
structure OM where
  x : ObjT
  A : Option Addr
  c : Nat
structure IM where
  x : IntT
  A : Option Addr
  c : Nat
structure MM where
  x : MetT
  MA : Option Addr
  mc : Nat
  NA : Option Addr
  nc : Nat
  CA : Option Addr
  cc : Nat
  OA : Option Addr
  oc : Nat
  IA : Option Addr
  ic : Nat
  SA : Option Addr
  sc : Nat
  WA : Option Addr
  wc : Nat
  DA : Option Addr
  dc : Nat
  os : List OM
  is : List IM
def MM.cs (m : MM) : Array Value := #[.int .i64 m.x.k, .int .i64 m.x.n, .int .i64 m.x.groups, .int .u64 (m.x.mep : Int), .slice m.MA m.x.mem.length m.mc, .int .u64 (m.x.nep : Int), .slice m.NA m.x.nem.length m.nc, .slice m.CA m.x.cut.length m.cc, .slice m.OA m.x.objs.length m.oc, .slice m.IA m.x.ints.length m.ic, .slice m.SA m.x.sess.length m.sc, .slice m.WA m.x.wass.length m.wc, .slice m.DA m.x.down.length m.dc, .int .u64 (m.x.last : Int)]
def cmdCs (x : CmdT) (A : Option Addr) (c : Nat) : Array Value := #[.int .i64 x.kind, .int .u64 (x.client : Int), .int .u64 (x.seq : Int), .string (strOf x.key), .int .i64 x.size, .int .u32 (x.sum : Int), .int .u64 (x.version : Int), .int .u64 (x.epoch : Int), .int .i64 x.group, .int .i64 x.node, .bool x.up, .int .u64 (x.id.ver : Int), .int .i64 x.id.idx, .int .u64 (x.id.ep : Int), .int .u64 (x.mep : Int), .slice A x.mem.length c]
end Go.Proofs.YtijdbdenmcjmmaaGreatDoor
end
