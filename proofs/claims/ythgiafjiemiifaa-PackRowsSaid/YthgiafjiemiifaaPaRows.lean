/-
  PackRows holds for every row of entries: entries put one behind the other are read one by one.
-/
import Derived.Test.YthgiafjiemiifaaPaE2
import Derived.Test.YthgiafjiemiifaaRegLate
import Derived.Deep.Cut
namespace Go.Proofs.Ythgiafjiemiifaa
open Go.RowKit OctMath
set_option linter.unusedVariables false
theorem cells_below {w w' : World} {p : Addr} {cs : List Value} (h : ∀ j v, cs[j]? = some v → w.cell? (p.add j) = some v) (hp : p.block < w.heap.size) (hb : Below w.heap.size w w') : ∀ j v, cs[j]? = some v → w'.cell? (p.add j) = some v := fun j v hv => (hb.cell (p := p.add j) (by rw [block_of_add]; exact hp)).trans (h j v hv)
set_option maxRecDepth 100000 in
set_option maxHeartbeats 16000000 in
theorem rows_any (A : Option Addr) (n cap : Nat) (es : List EM) (w : World) (HL : Hid (Reads w w.heap.size 21 A n (es.flatMap emCs))) (HN : Hid (es.length = n)) (HE : Hid (∀ m ∈ es, EmIn w m)) (hnm : n ≤ 9223372036854775807) :
    Calls Try.prog 4 #[.slice A n cap] w fun e w' => e = .returned (.bool true) ∧ Below w.heap.size w w' := by
  go_enter Try.func4, Try.ntmps4
  go_wp2
  go_loopw [3, 4, 5] (fun vb vi vc wr => ∃ (k : Nat) (B : Option Addr) (bl bc : Nat), k ≤ n ∧ vi = .int .i64 k ∧ vb = .slice B bl bc ∧ Hid (bl = (emB (es.take k)).length ∧ Reads wr wr.heap.size 1 B bl ((emB (es.take k)).map bv) ∧ bl ≤ bc ∧ bc ≤ maxLen) ∧ Hid (∀ m ∈ es.take k, EntOk m.x) ∧ Hid (Below w.heap.size w wr) ∧ Hid (bl ≤ 60000000)) (fun _ vi _ _ => n - (intOf vi).toNat)
  case atStart => exact ⟨0, none, 0, 0, by omega, rfl, rfl, Lib.hid ⟨rfl, Reads.none_, Nat.le_refl _, by unfold maxLen; omega⟩, Lib.hid (fun m h => by simp at h), Lib.hid (Below.refl _ _), Lib.hid (by omega)⟩
  case round =>
  obtain ⟨k, B, bl, bc, hk, rfl, rfl, hB, hOK, HB, hbl⟩ := hrel
  by_cases hlt : k < n
  · have dk : decide (k < n) = true := decide_eq_true hlt
    have hke : k < es.length := by rw [HN.out]; exact hlt
    obtain ⟨ad, hA, hadb, hc⟩ := (HL.out.later HB.out).2 (by omega)
    have hm0 := List.getElem_mem hke
    have hrow := em_cells hc hke
    have htk := emB_take hke
    have hok1 : ∀ m ∈ es.take (k + 1), m = es[k] ∨ m ∈ es.take k := fun m hm => by
      rw [List.take_succ_eq_append_getElem hke] at hm
      rcases List.mem_append.1 hm with h | h
      · exact .inr h
      · exact .inl (List.mem_singleton.1 h)
    obtain ⟨m, hm⟩ : ∃ m, es[k] = m := ⟨_, rfl⟩
    rw [hm] at hm0 hrow htk hok1
    have HROW := Lib.hid hrow
    have HTK := Lib.hid htk
    have HO1 := Lib.hid hok1
    have HM := Lib.hid (HE.out m hm0)
    have HADB := Lib.hid (show (ad.add (k * 21)).block < wr.heap.size from by rw [block_of_add]; exact hadb)
    subst hA
    clear hm hm0 hrow htk hok1 hc hadb
    go_upto_region 6 with (first
      | (refine wpl_load_at rfl 68 (.tmp 22) rfl (ad.add (k * 21)) (#[.int .u64 (m.x.index : Int), .int .u64 (m.x.term : Int), .int .i64 m.x.kind, .int .i64 m.x.cmd.kind, .int .u64 (m.x.cmd.client : Int), .int .u64 (m.x.cmd.seq : Int), .string (strOf m.x.cmd.key), .int .i64 m.x.cmd.size, .int .u32 (m.x.cmd.sum : Int), .int .u64 (m.x.cmd.version : Int), .int .u64 (m.x.cmd.epoch : Int), .int .i64 m.x.cmd.group, .int .i64 m.x.cmd.node, .bool m.x.cmd.up, .int .u64 (m.x.cmd.id.ver : Int), .int .i64 m.x.cmd.id.idx, .int .u64 (m.x.cmd.id.ep : Int), .int .u64 (m.x.cmd.mep : Int), .slice m.A m.x.cmd.mem.length m.c, .slice m.B m.x.voters.length m.d, .slice m.E m.x.learners.length m.f] : Array Value).toList _ rfl HROW.out Try.underlying68 rfl Try.sizeE ?_)
      | (refine wpl_store_blk rfl 68 (.tmp 5) (.tmp 23) rfl wr.heap.size 68 #[.int .u64 0, .int .u64 0, .int .i64 0, .int .i64 0, .int .u64 0, .int .u64 0, .string ⟨#[]⟩, .int .i64 0, .int .u32 0, .int .u64 0, .int .u64 0, .int .i64 0, .int .i64 0, .bool false, .int .u64 0, .int .i64 0, .int .u64 0, .int .u64 0, .slice none 0 0, .slice none 0 0, .slice none 0 0] #[.int .u64 (m.x.index : Int), .int .u64 (m.x.term : Int), .int .i64 m.x.kind, .int .i64 m.x.cmd.kind, .int .u64 (m.x.cmd.client : Int), .int .u64 (m.x.cmd.seq : Int), .string (strOf m.x.cmd.key), .int .i64 m.x.cmd.size, .int .u32 (m.x.cmd.sum : Int), .int .u64 (m.x.cmd.version : Int), .int .u64 (m.x.cmd.epoch : Int), .int .i64 m.x.cmd.group, .int .i64 m.x.cmd.node, .bool m.x.cmd.up, .int .u64 (m.x.cmd.id.ver : Int), .int .i64 m.x.cmd.id.idx, .int .u64 (m.x.cmd.id.ep : Int), .int .u64 (m.x.cmd.mep : Int), .slice m.A m.x.cmd.mem.length m.c, .slice m.B m.x.voters.length m.d, .slice m.E m.x.learners.length m.f] rfl rfl (Blk.new wr _ _) rfl Try.sizeE rfl ?_; intro wb hB1 hO1
         have hs : Below wr.heap.size wr wb := ((Below.refl _ _).alloc (Nat.le_refl _) _).trans (hO1.out.below (Nat.le_refl _))
         have HX := hB1
         have HB2 := Lib.hid (HB.out.trans (hs.mono HB.out.size))
         have HS := Lib.hid hs
         have f6 : wb.cell? ⟨wr.heap.size, 6, none⟩ = some (.string (strOf m.x.cmd.key)) := HX.out.cell 6
         have f18 : wb.cell? ⟨wr.heap.size, 18, none⟩ = some (.slice m.A m.x.cmd.mem.length m.c) := HX.out.cell 18
         have f19 : wb.cell? ⟨wr.heap.size, 19, none⟩ = some (.slice m.B m.x.voters.length m.d) := HX.out.cell 19
         have f20 : wb.cell? ⟨wr.heap.size, 20, none⟩ = some (.slice m.E m.x.learners.length m.f) := HX.out.cell 20
         clear hs hO1 hB1))
    have hsz : (strOf m.x.cmd.key).size = m.x.cmd.key.length := strOf_size _
    obtain ⟨ky, hky⟩ : ∃ ky, strOf m.x.cmd.key = ky := ⟨_, rfl⟩
    obtain ⟨l1, hl1⟩ : ∃ l, m.x.cmd.key.length = l := ⟨_, rfl⟩
    obtain ⟨l2, hl2⟩ : ∃ l, m.x.cmd.mem.length = l := ⟨_, rfl⟩
    obtain ⟨l3, hl3⟩ : ∃ l, m.x.voters.length = l := ⟨_, rfl⟩
    obtain ⟨l4, hl4⟩ : ∃ l, m.x.learners.length = l := ⟨_, rfl⟩
    have HL1 := Lib.hid hl1
    have HL2 := Lib.hid hl2
    have HL3 := Lib.hid hl3
    have HL4 := Lib.hid hl4
    rw [hky] at f6 hsz
    rw [hl1] at hsz
    rw [hl2] at f18
    rw [hl3] at f19
    rw [hl4] at f20
    clear hky hl1 hl2 hl3 hl4
    by_cases c0 : 100000 < l1
    · have p0 : decide ((l1 : Int) > 100000) = true := decide_eq_true (by omega)
      have q0 : decide (100000 < l1) = true := decide_eq_true c0
      clear c0
      go_wp2_with (go_at_call 21; refine (heads_any wb).mono ?_; rintro e wh ⟨rfl, hb⟩; have HB3 := Lib.hid (HB2.out.trans (hb.mono HB2.out.size)); clear hb)
      go_ret
      exact ⟨rfl, HB3.out⟩
    · have p0 : decide ((l1 : Int) > 100000) = false := decide_eq_false (by omega)
      have q0 : decide (100000 < l1) = false := decide_eq_false c0
      by_cases c1 : 100000 < l2
      · have p1 : decide ((l2 : Int) > 100000) = true := decide_eq_true (by omega)
        have q1 : decide (100000 < l2) = true := decide_eq_true c1
        clear c1
        go_wp2_with (go_at_call 21; refine (heads_any wb).mono ?_; rintro e wh ⟨rfl, hb⟩; have HB3 := Lib.hid (HB2.out.trans (hb.mono HB2.out.size)); clear hb)
        go_ret
        exact ⟨rfl, HB3.out⟩
      · have p1 : decide ((l2 : Int) > 100000) = false := decide_eq_false (by omega)
        have q1 : decide (100000 < l2) = false := decide_eq_false c1
        by_cases c2 : 100000 < l3
        · have p2 : decide ((l3 : Int) > 100000) = true := decide_eq_true (by omega)
          have q2 : decide (100000 < l3) = true := decide_eq_true c2
          clear c2
          go_wp2_with (go_at_call 21; refine (heads_any wb).mono ?_; rintro e wh ⟨rfl, hb⟩; have HB3 := Lib.hid (HB2.out.trans (hb.mono HB2.out.size)); clear hb)
          go_ret
          exact ⟨rfl, HB3.out⟩
        · have p2 : decide ((l3 : Int) > 100000) = false := decide_eq_false (by omega)
          have q2 : decide (100000 < l3) = false := decide_eq_false c2
          by_cases c3 : 100000 < l4
          · have p3 : decide ((l4 : Int) > 100000) = true := decide_eq_true (by omega)
            have q3 : decide (100000 < l4) = true := decide_eq_true c3
            clear c3
            go_wp2_with (go_at_call 21; refine (heads_any wb).mono ?_; rintro e wh ⟨rfl, hb⟩; have HB3 := Lib.hid (HB2.out.trans (hb.mono HB2.out.size)); clear hb)
            go_ret
            exact ⟨rfl, HB3.out⟩
          · have p3 : decide ((l4 : Int) > 100000) = false := decide_eq_false (by omega)
            have q3 : decide (100000 < l4) = false := decide_eq_false c3
            by_cases c4 : 10000000 < bl
            · have p4 : decide ((bl : Int) > 10000000) = true := decide_eq_true (by omega)
              have q4 : decide (10000000 < bl) = true := decide_eq_true c4
              clear c4
              go_wp2_with (go_at_call 21; refine (heads_any wb).mono ?_; rintro e wh ⟨rfl, hb⟩; have HB3 := Lib.hid (HB2.out.trans (hb.mono HB2.out.size)); clear hb)
              go_ret
              exact ⟨rfl, HB3.out⟩
            · have p4 : decide ((bl : Int) > 10000000) = false := decide_eq_false (by omega)
              have q4 : decide (10000000 < bl) = false := decide_eq_false c4
              have HOKM := Lib.hid (show EntOk m.x from HM.out.ok.ok (by rw [HL1.out]; omega) (by rw [HL2.out]; omega) (by rw [HL3.out]; omega) (by rw [HL4.out]; omega))
              obtain ⟨ys, hys⟩ : ∃ ys, emB (es.take k) = ys := ⟨_, rfl⟩
              obtain ⟨zz', hzz⟩ : ∃ z, ys ++ pEnt m.x = z := ⟨_, rfl⟩
              rw [hys] at hB HTK
              rw [hzz] at HTK
              have HZL := Lib.hid (show zz'.length = bl + (pEnt m.x).length from by rw [← hzz, List.length_append, ← hB.out.1])
              have HPE := Lib.hid (putb_entry B bl bc ys m.A m.c m.B m.d m.E m.f m.x wb (Lib.hid (hB.out.2.1.later HS.out)) (Lib.hid (HM.out.r1.later HB2.out)) (Lib.hid (HM.out.r2.later HB2.out)) (Lib.hid (HM.out.r3.later HB2.out)) HOKM.out (by omega))
              rw [hzz] at HPE
              clear hys hzz
              have hle : bl ≤ 10000000 := by omega
              have HLE := Lib.hid hle
              clear hle
              go_wp2_with (first
                | (refine wpl_load_blk rfl 68 (.tmp 5) rfl wr.heap.size 68 #[.int .u64 (m.x.index : Int), .int .u64 (m.x.term : Int), .int .i64 m.x.kind, .int .i64 m.x.cmd.kind, .int .u64 (m.x.cmd.client : Int), .int .u64 (m.x.cmd.seq : Int), .string (strOf m.x.cmd.key), .int .i64 m.x.cmd.size, .int .u32 (m.x.cmd.sum : Int), .int .u64 (m.x.cmd.version : Int), .int .u64 (m.x.cmd.epoch : Int), .int .i64 m.x.cmd.group, .int .i64 m.x.cmd.node, .bool m.x.cmd.up, .int .u64 (m.x.cmd.id.ver : Int), .int .i64 m.x.cmd.id.idx, .int .u64 (m.x.cmd.id.ep : Int), .int .u64 (m.x.cmd.mep : Int), .slice m.A m.x.cmd.mem.length m.c, .slice m.B m.x.voters.length m.d, .slice m.E m.x.learners.length m.f] _ rfl HX.out Try.underlying68 rfl Try.sizeE ?_)
                | (go_at_call 22; refine HPE.out.mono ?_; rintro e wd ⟨B2, b2c, rfl, r2, hb2, u1, u2⟩
                   have HR2 := Lib.hid r2
                   have HU := Lib.hid (And.intro u1 u2)
                   have HB3 := Lib.hid (HB2.out.trans (hb2.mono HB2.out.size))
                   clear r2 hb2 u1 u2))
              refine ⟨⟨k + 1, B2, zz'.length, b2c, by omega, by go_num, rfl, Lib.hid ⟨by rw [HTK.out], by rw [HTK.out]; exact HR2.out, HU.out.1, HU.out.2⟩, Lib.hid (fun m2 h2 => ?_), HB3, Lib.hid ?_⟩, by simp [intOf]; omega⟩
              · rcases HO1.out m2 h2 with rfl | h
                · exact HOKM.out
                · exact hOK.out m2 h
              · have h1 := HZL.out
                have h2 := pEnt_len HOKM.out
                have h3 := HLE.out
                omega
  · as_aux_lemma =>
    obtain rfl : k = n := by omega
    have dk : decide (k < k) = false := decide_eq_false hlt
    have htk : es.take k = es := by rw [← HN.out]; exact List.take_length
    rw [htk] at hB hOK
    obtain ⟨hb1, hb2, hb3, hb4⟩ := hB.out
    subst hb1
    have HI0 := Lib.hid (⟨hb2, emB_byt hOK.out, rfl, hb3, hb4, by have := hbl.out; omega⟩ : InB wr B (emB es).length bc (emB es))
    obtain ⟨N, hN⟩ : ∃ N, (emB es).length = N := ⟨_, rfl⟩
    rw [hN] at HI0 hbl ⊢
    have HNN := Lib.hid hN
    have HBR := HB
    have hNle := hbl.out
    have HXU := Lib.hid (fun W (h : Hid (InB W B N bc (emB es))) (j : Int) => xu_entry B N bc (emB es) j W h)
    have HRD := Lib.hid (fun (j : Nat) (hj : j < es.length) => em_read hOK.out hj)
    have HEN := Lib.hid (em_end (emB es))
    rw [hN] at HRD HEN
    have HTN := Lib.hid (show (emB (es.take k)).length = N from by rw [htk]; exact hN)
    clear htk hb2 hb3 hb4 hB hN hlt
    go_wp2
    obtain ⟨w8, hw8⟩ : ∃ w8, wr = w8 := ⟨_, rfl⟩
    rw [hw8] at HBR HI0 ⊢
    clear hw8
    go_loopw [6, 7, 8, 9, 10] (fun vat vi vx vp ve wx => ∃ j p : Nat, j ≤ k ∧ vi = .int .i64 j ∧ vat = .int .i64 (p : Int) ∧ Hid (p = (emB (es.take j)).length) ∧ Hid (Below w8.heap.size w8 wx)) (fun _ vi _ _ _ _ => k - (intOf vi).toNat)
    case atStart => exact ⟨0, 0, by omega, rfl, rfl, Lib.hid (by simp [emB]), Lib.hid (Below.refl _ _)⟩
    case round =>
    obtain ⟨j, p, hj, rfl, rfl, hp, HB⟩ := hrel
    by_cases hlt : j < k
    · have dj : decide (j < k) = true := decide_eq_true hlt
      have hje : j < es.length := by rw [HN.out]; exact hlt
      obtain ⟨ad, hA, hadb, hc⟩ := (HL.out.later (HBR.out.trans (HB.out.mono HBR.out.size))).2 (by omega)
      have hrow := em_cells hc hje
      have htk := emB_take hje
      have hrd := HRD.out j hje
      have hm0 := List.getElem_mem hje
      obtain ⟨m, hm⟩ : ∃ m, es[j] = m := ⟨_, rfl⟩
      rw [hm] at hm0 hrow htk hrd
      have hpl : (emB (es.take (j + 1))).length = p + (pEnt m.x).length := by rw [htk, List.length_append, ← hp.out]
      obtain ⟨p2, hp2⟩ : ∃ p2, (emB (es.take (j + 1))).length = p2 := ⟨_, rfl⟩
      rw [hp2, ← hp.out] at hrd
      rw [hp2] at hpl
      have hpos := pEnt_pos m.x
      have hlt2 : p < p2 := by omega
      have HROW := Lib.hid hrow
      have HP2 := Lib.hid hp2
      have HM := Lib.hid (HE.out m hm0)
      have HOKM := Lib.hid (hOK.out m hm0)
      have HADB := Lib.hid (show (ad.add (j * 21)).block < wr.heap.size from by rw [block_of_add]; exact hadb)
      have HC := Lib.hid (HXU.out wr (Lib.hid (HI0.out.later HB.out)) (p : Int))
      rw [hrd] at HC
      have dp1 : decide ((p2 : Int) ≤ (p : Int)) = false := decide_eq_false (by omega)
      have dp2 : decide (p2 ≤ p) = false := decide_eq_false (by omega)
      subst hA
      clear hm hm0 hrow htk hrd hp2 hpl hpos hc hadb hlt2
      go_wp2_with fail
      refine HC.out.mono ?_
      rintro e wa ⟨hb, v, rfl, A1, c1, A2, c2, A3, c3, rfl, r1, r2, r3, -⟩
      unfold entCs
      have K1 := Lib.hid r1.rd
      have K2 := Lib.hid r2.rd
      have K3 := Lib.hid r3.rd
      have HW1 := Lib.hid (HB.out.trans (hb.mono HB.out.size))
      have HROW := Lib.hid (cells_below HROW.out HADB.out hb)
      have HADB := Lib.hid (Nat.lt_of_lt_of_le HADB.out hb.size)
      clear hb r1 r2 r3 HC
      go_upto_region 14 with (refine wpl_store_blk rfl 68 (.tmp 8) (.tmp 70) rfl wa.heap.size 68 #[.int .u64 0, .int .u64 0, .int .i64 0, .int .i64 0, .int .u64 0, .int .u64 0, .string ⟨#[]⟩, .int .i64 0, .int .u32 0, .int .u64 0, .int .u64 0, .int .i64 0, .int .i64 0, .bool false, .int .u64 0, .int .i64 0, .int .u64 0, .int .u64 0, .slice none 0 0, .slice none 0 0, .slice none 0 0] #[.int .u64 (m.x.index : Int), .int .u64 (m.x.term : Int), .int .i64 m.x.kind, .int .i64 m.x.cmd.kind, .int .u64 (m.x.cmd.client : Int), .int .u64 (m.x.cmd.seq : Int), .string (strOf m.x.cmd.key), .int .i64 m.x.cmd.size, .int .u32 (m.x.cmd.sum : Int), .int .u64 (m.x.cmd.version : Int), .int .u64 (m.x.cmd.epoch : Int), .int .i64 m.x.cmd.group, .int .i64 m.x.cmd.node, .bool m.x.cmd.up, .int .u64 (m.x.cmd.id.ver : Int), .int .i64 m.x.cmd.id.idx, .int .u64 (m.x.cmd.id.ep : Int), .int .u64 (m.x.cmd.mep : Int), .slice A1 m.x.cmd.mem.length c1, .slice A2 m.x.voters.length c2, .slice A3 m.x.learners.length c3] rfl rfl (Blk.new wa _ _) rfl Try.sizeE rfl ?_; intro wb hB1 hO1)
      have hs : Below wa.heap.size wa wb := ((Below.refl _ _).alloc (Nat.le_refl _) _).trans (hO1.out.below (Nat.le_refl _))
      have HW2 := Lib.hid (HW1.out.trans (hs.mono HW1.out.size))
      have HROW := Lib.hid (cells_below HROW.out HADB.out hs)
      have HADB := Lib.hid (Nat.lt_of_lt_of_le HADB.out hs.size)
      have K1 := Lib.hid (K1.out.later hs)
      have K2 := Lib.hid (K2.out.later hs)
      have K3 := Lib.hid (K3.out.later hs)
      have HX := hB1
      clear hs hO1
      refine wp_region_late (S0 := fun _ => True) (S := fun w' => Blk w' wa.heap.size 68 #[.int .u64 (m.x.index : Int), .int .u64 (m.x.term : Int), .int .i64 m.x.kind, .int .i64 m.x.cmd.kind, .int .u64 (m.x.cmd.client : Int), .int .u64 (m.x.cmd.seq : Int), .string (strOf m.x.cmd.key), .int .i64 m.x.cmd.size, .int .u32 (m.x.cmd.sum : Int), .int .u64 (m.x.cmd.version : Int), .int .u64 (m.x.cmd.epoch : Int), .int .i64 m.x.cmd.group, .int .i64 m.x.cmd.node, .bool m.x.cmd.up, .int .u64 (m.x.cmd.id.ver : Int), .int .i64 m.x.cmd.id.idx, .int .u64 (m.x.cmd.id.ep : Int), .int .u64 (m.x.cmd.mep : Int), .slice A1 m.x.cmd.mem.length c1, .slice A2 m.x.voters.length c2, .slice A3 m.x.learners.length c3] ∧ (∀ j' v, ((#[.int .u64 (m.x.index : Int), .int .u64 (m.x.term : Int), .int .i64 m.x.kind, .int .i64 m.x.cmd.kind, .int .u64 (m.x.cmd.client : Int), .int .u64 (m.x.cmd.seq : Int), .string (strOf m.x.cmd.key), .int .i64 m.x.cmd.size, .int .u32 (m.x.cmd.sum : Int), .int .u64 (m.x.cmd.version : Int), .int .u64 (m.x.cmd.epoch : Int), .int .i64 m.x.cmd.group, .int .i64 m.x.cmd.node, .bool m.x.cmd.up, .int .u64 (m.x.cmd.id.ver : Int), .int .i64 m.x.cmd.id.idx, .int .u64 (m.x.cmd.id.ep : Int), .int .u64 (m.x.cmd.mep : Int), .slice m.A m.x.cmd.mem.length m.c, .slice m.B m.x.voters.length m.d, .slice m.E m.x.learners.length m.f] : Array Value).toList)[j']? = some v → w'.cell? ((ad.add (j * 21)).add j') = some v)) 17 18 (by kernel_rfl) rfl ⟨trivial, HX.out.drew, HROW.out⟩ (fun wd hwd hH => ?_)
      have nd := Lib.hid (show Below wb.heap.size wb wd from by rw [hwd]; exact (Below.refl _ _).drew)
      have HADD := Lib.hid (show (ad.add (j * 21)).block < wd.heap.size from by rw [hwd]; exact HADB.out)
      clear hwd
      refine wpAnyT_stay 0 (v := ?_) rfl (by kernel_rfl) (fun _ _ _ h => h) (Or.inl ⟨by rfl, ?_⟩) ⟨hH.1, fun _ => hH.2⟩ ?_
      rotate_left
      · (intro wy hx; go_simp <;> with_reducible rfl)
      try simp only [Act.put, List.setIfInBounds_toArray, List.set_cons_zero, List.set_cons_succ]
      refine wpAnyT_stay 1 (v := ?_) rfl (by kernel_rfl) (fun _ _ _ h => h) (Or.inl ⟨by rfl, ?_⟩) ⟨hH.1, fun _ => hH.2⟩ ?_
      rotate_left
      · (intro wy hx; go_simp <;> with_reducible rfl)
      try simp only [Act.put, List.setIfInBounds_toArray, List.set_cons_zero, List.set_cons_succ]
      refine wpAnyT_stay 2 (v := ?_) rfl (by kernel_rfl) (fun _ _ _ h => h) (Or.inl ⟨by rfl, ?_⟩) ⟨hH.1, fun _ => hH.2⟩ ?_
      rotate_left
      · (intro wy hx; go_simp <;> with_reducible rfl)
      try simp only [Act.put, List.setIfInBounds_toArray, List.set_cons_zero, List.set_cons_succ]
      refine wpAnyT_stay 3 (v := ?_) rfl (by kernel_rfl) (fun _ _ _ h => h) (Or.inl ⟨by rfl, ?_⟩) ⟨hH.1, fun _ => hH.2⟩ ?_
      rotate_left
      · (intro wy hx; go_simp <;> with_reducible rfl)
      try simp only [Act.put, List.setIfInBounds_toArray, List.set_cons_zero, List.set_cons_succ]
      refine wpAnyT_stay 4 (v := ?_) rfl (by kernel_rfl) (fun _ _ _ h => h) (Or.inl ⟨by rfl, ?_⟩) ⟨hH.1, fun _ => hH.2⟩ ?_
      rotate_left
      · (intro wy hx; go_simp <;> with_reducible rfl)
      try simp only [Act.put, List.setIfInBounds_toArray, List.set_cons_zero, List.set_cons_succ]
      refine wpAnyT_stay 5 (v := ?_) rfl (by kernel_rfl) (fun _ _ _ h => h) (Or.inl ⟨by rfl, ?_⟩) ⟨hH.1, fun _ => hH.2⟩ ?_
      rotate_left
      · (intro wy hx; go_simp <;> with_reducible rfl)
      try simp only [Act.put, List.setIfInBounds_toArray, List.set_cons_zero, List.set_cons_succ]
      refine wpAnyT_stay 6 (v := ?_) rfl (by kernel_rfl) (fun _ _ _ h => h) (Or.inl ⟨by rfl, ?_⟩) ⟨hH.1, fun _ => hH.2⟩ ?_
      rotate_left
      · (intro wy hx; go_simp <;> with_reducible rfl)
      try simp only [Act.put, List.setIfInBounds_toArray, List.set_cons_zero, List.set_cons_succ]
      refine wpAnyT_stay 7 (v := ?_) rfl (by kernel_rfl) (fun _ _ _ h => h) (Or.inl ⟨by rfl, ?_⟩) ⟨hH.1, fun _ => hH.2⟩ ?_
      rotate_left
      · (intro wy hx; go_simp <;> with_reducible rfl)
      try simp only [Act.put, List.setIfInBounds_toArray, List.set_cons_zero, List.set_cons_succ]
      refine wpAnyT_take 8 rfl (by kernel_rfl) (fun _ _ _ h => h) (yields_load_blk rfl 68 (.tmp 8) rfl wa.heap.size 68 #[.int .u64 (m.x.index : Int), .int .u64 (m.x.term : Int), .int .i64 m.x.kind, .int .i64 m.x.cmd.kind, .int .u64 (m.x.cmd.client : Int), .int .u64 (m.x.cmd.seq : Int), .string (strOf m.x.cmd.key), .int .i64 m.x.cmd.size, .int .u32 (m.x.cmd.sum : Int), .int .u64 (m.x.cmd.version : Int), .int .u64 (m.x.cmd.epoch : Int), .int .i64 m.x.cmd.group, .int .i64 m.x.cmd.node, .bool m.x.cmd.up, .int .u64 (m.x.cmd.id.ver : Int), .int .i64 m.x.cmd.id.idx, .int .u64 (m.x.cmd.id.ep : Int), .int .u64 (m.x.cmd.mep : Int), .slice A1 m.x.cmd.mem.length c1, .slice A2 m.x.voters.length c2, .slice A3 m.x.learners.length c3] _ rfl (fun w' hw' => hw'.1) Try.underlying68 rfl Try.sizeE) hH ?_
      try simp only [Act.put, List.setIfInBounds_toArray, List.set_cons_zero, List.set_cons_succ]
      refine wpAnyT_stay 10 (v := ?_) rfl (by kernel_rfl) (fun _ _ _ h => h) (Or.inl ⟨by rfl, ?_⟩) ⟨hH.1, fun _ => hH.2⟩ ?_
      rotate_left
      · (intro wy hx; go_simp <;> with_reducible rfl)
      try simp only [Act.put, List.setIfInBounds_toArray, List.set_cons_zero, List.set_cons_succ]
      refine wpAnyT_stay 11 (v := ?_) rfl (by kernel_rfl) (fun _ _ _ h => h) (Or.inl ⟨by rfl, ?_⟩) ⟨hH.1, fun _ => hH.2⟩ ?_
      rotate_left
      · (intro wy hx; go_simp <;> with_reducible rfl)
      try simp only [Act.put, List.setIfInBounds_toArray, List.set_cons_zero, List.set_cons_succ]
      refine wpAnyT_stay 12 (v := ?_) rfl (by kernel_rfl) (fun _ _ _ h => h) (Or.inl ⟨by rfl, ?_⟩) ⟨hH.1, fun _ => hH.2⟩ ?_
      rotate_left
      · (intro wy hx; go_simp <;> with_reducible rfl)
      try simp only [Act.put, List.setIfInBounds_toArray, List.set_cons_zero, List.set_cons_succ]
      refine wpAnyT_take 13 rfl (by kernel_rfl) (fun _ _ _ h => h) (yields_load_at rfl 68 (.tmp 85) rfl (ad.add (j * 21)) (#[.int .u64 (m.x.index : Int), .int .u64 (m.x.term : Int), .int .i64 m.x.kind, .int .i64 m.x.cmd.kind, .int .u64 (m.x.cmd.client : Int), .int .u64 (m.x.cmd.seq : Int), .string (strOf m.x.cmd.key), .int .i64 m.x.cmd.size, .int .u32 (m.x.cmd.sum : Int), .int .u64 (m.x.cmd.version : Int), .int .u64 (m.x.cmd.epoch : Int), .int .i64 m.x.cmd.group, .int .i64 m.x.cmd.node, .bool m.x.cmd.up, .int .u64 (m.x.cmd.id.ver : Int), .int .i64 m.x.cmd.id.idx, .int .u64 (m.x.cmd.id.ep : Int), .int .u64 (m.x.cmd.mep : Int), .slice m.A m.x.cmd.mem.length m.c, .slice m.B m.x.voters.length m.d, .slice m.E m.x.learners.length m.f] : Array Value).toList _ rfl (fun w' hw' => hw'.2) Try.underlying68 rfl Try.sizeE) hH ?_
      try simp only [Act.put, List.setIfInBounds_toArray, List.set_cons_zero, List.set_cons_succ]
      refine wpAnyT_two 9 14 rfl rfl (by kernel_rfl) (fun K hQ => ?_) (fun K hQ => ?_)
      · as_aux_lemma =>
        rw [if_pos (by rfl)]
        refine wp_build1 (.tmp 81) rfl (#[.int .u64 (m.x.index : Int), .int .u64 (m.x.term : Int), .int .i64 m.x.kind, .int .i64 m.x.cmd.kind, .int .u64 (m.x.cmd.client : Int), .int .u64 (m.x.cmd.seq : Int), .string (strOf m.x.cmd.key), .int .i64 m.x.cmd.size, .int .u32 (m.x.cmd.sum : Int), .int .u64 (m.x.cmd.version : Int), .int .u64 (m.x.cmd.epoch : Int), .int .i64 m.x.cmd.group, .int .i64 m.x.cmd.node, .bool m.x.cmd.up, .int .u64 (m.x.cmd.id.ver : Int), .int .i64 m.x.cmd.id.idx, .int .u64 (m.x.cmd.id.ep : Int), .int .u64 (m.x.cmd.mep : Int), .slice A1 m.x.cmd.mem.length c1, .slice A2 m.x.voters.length c2, .slice A3 m.x.learners.length c3]) rfl rfl ?_
        try simp only [Act.put, List.setIfInBounds_toArray, List.set_cons_zero, List.set_cons_succ]
        obtain ⟨w5, ew5⟩ : ∃ w5, wd.alloc (.cells #[.int .u64 (m.x.index : Int), .int .u64 (m.x.term : Int), .int .i64 m.x.kind, .int .i64 m.x.cmd.kind, .int .u64 (m.x.cmd.client : Int), .int .u64 (m.x.cmd.seq : Int), .string (strOf m.x.cmd.key), .int .i64 m.x.cmd.size, .int .u32 (m.x.cmd.sum : Int), .int .u64 (m.x.cmd.version : Int), .int .u64 (m.x.cmd.epoch : Int), .int .i64 m.x.cmd.group, .int .i64 m.x.cmd.node, .bool m.x.cmd.up, .int .u64 (m.x.cmd.id.ver : Int), .int .i64 m.x.cmd.id.idx, .int .u64 (m.x.cmd.id.ep : Int), .int .u64 (m.x.cmd.mep : Int), .slice A1 m.x.cmd.mem.length c1, .slice A2 m.x.voters.length c2, .slice A3 m.x.learners.length c3] 68) = w5 := ⟨_, rfl⟩
        have hb5 : Below wd.heap.size wd (wd.alloc (.cells #[.int .u64 (m.x.index : Int), .int .u64 (m.x.term : Int), .int .i64 m.x.kind, .int .i64 m.x.cmd.kind, .int .u64 (m.x.cmd.client : Int), .int .u64 (m.x.cmd.seq : Int), .string (strOf m.x.cmd.key), .int .i64 m.x.cmd.size, .int .u32 (m.x.cmd.sum : Int), .int .u64 (m.x.cmd.version : Int), .int .u64 (m.x.cmd.epoch : Int), .int .i64 m.x.cmd.group, .int .i64 m.x.cmd.node, .bool m.x.cmd.up, .int .u64 (m.x.cmd.id.ver : Int), .int .i64 m.x.cmd.id.idx, .int .u64 (m.x.cmd.id.ep : Int), .int .u64 (m.x.cmd.mep : Int), .slice A1 m.x.cmd.mem.length c1, .slice A2 m.x.voters.length c2, .slice A3 m.x.learners.length c3] 68)) := (Below.refl _ _).alloc (Nat.le_refl _) _
        have hG1 : Blk (wd.alloc (.cells #[.int .u64 (m.x.index : Int), .int .u64 (m.x.term : Int), .int .i64 m.x.kind, .int .i64 m.x.cmd.kind, .int .u64 (m.x.cmd.client : Int), .int .u64 (m.x.cmd.seq : Int), .string (strOf m.x.cmd.key), .int .i64 m.x.cmd.size, .int .u32 (m.x.cmd.sum : Int), .int .u64 (m.x.cmd.version : Int), .int .u64 (m.x.cmd.epoch : Int), .int .i64 m.x.cmd.group, .int .i64 m.x.cmd.node, .bool m.x.cmd.up, .int .u64 (m.x.cmd.id.ver : Int), .int .i64 m.x.cmd.id.idx, .int .u64 (m.x.cmd.id.ep : Int), .int .u64 (m.x.cmd.mep : Int), .slice A1 m.x.cmd.mem.length c1, .slice A2 m.x.voters.length c2, .slice A3 m.x.learners.length c3] 68)) wd.heap.size 68 #[.int .u64 (m.x.index : Int), .int .u64 (m.x.term : Int), .int .i64 m.x.kind, .int .i64 m.x.cmd.kind, .int .u64 (m.x.cmd.client : Int), .int .u64 (m.x.cmd.seq : Int), .string (strOf m.x.cmd.key), .int .i64 m.x.cmd.size, .int .u32 (m.x.cmd.sum : Int), .int .u64 (m.x.cmd.version : Int), .int .u64 (m.x.cmd.epoch : Int), .int .i64 m.x.cmd.group, .int .i64 m.x.cmd.node, .bool m.x.cmd.up, .int .u64 (m.x.cmd.id.ver : Int), .int .i64 m.x.cmd.id.idx, .int .u64 (m.x.cmd.id.ep : Int), .int .u64 (m.x.cmd.mep : Int), .slice A1 m.x.cmd.mem.length c1, .slice A2 m.x.voters.length c2, .slice A3 m.x.learners.length c3] := Blk.new wd _ _
        rw [ew5] at hb5 hG1 ⊢
        refine hQ.out _ _ ⟨trivial, hH.2.1.below hb5 hH.2.1.lt, cells_below hH.2.2 HADD.out hb5⟩ (fun hH1 => ?_)
        clear hQ K
        try simp only [Act.put, List.setIfInBounds_toArray, List.set_cons_zero, List.set_cons_succ]
        refine wpAnyT_one 14 rfl (by kernel_rfl) (fun K hQ => ?_)
        rw [if_pos (by rfl)]
        refine wp_build1 (.tmp 86) rfl (#[.int .u64 (m.x.index : Int), .int .u64 (m.x.term : Int), .int .i64 m.x.kind, .int .i64 m.x.cmd.kind, .int .u64 (m.x.cmd.client : Int), .int .u64 (m.x.cmd.seq : Int), .string (strOf m.x.cmd.key), .int .i64 m.x.cmd.size, .int .u32 (m.x.cmd.sum : Int), .int .u64 (m.x.cmd.version : Int), .int .u64 (m.x.cmd.epoch : Int), .int .i64 m.x.cmd.group, .int .i64 m.x.cmd.node, .bool m.x.cmd.up, .int .u64 (m.x.cmd.id.ver : Int), .int .i64 m.x.cmd.id.idx, .int .u64 (m.x.cmd.id.ep : Int), .int .u64 (m.x.cmd.mep : Int), .slice m.A m.x.cmd.mem.length m.c, .slice m.B m.x.voters.length m.d, .slice m.E m.x.learners.length m.f]) rfl rfl ?_
        try simp only [Act.put, List.setIfInBounds_toArray, List.set_cons_zero, List.set_cons_succ]
        obtain ⟨w6, ew6⟩ : ∃ w6, w5.alloc (.cells #[.int .u64 (m.x.index : Int), .int .u64 (m.x.term : Int), .int .i64 m.x.kind, .int .i64 m.x.cmd.kind, .int .u64 (m.x.cmd.client : Int), .int .u64 (m.x.cmd.seq : Int), .string (strOf m.x.cmd.key), .int .i64 m.x.cmd.size, .int .u32 (m.x.cmd.sum : Int), .int .u64 (m.x.cmd.version : Int), .int .u64 (m.x.cmd.epoch : Int), .int .i64 m.x.cmd.group, .int .i64 m.x.cmd.node, .bool m.x.cmd.up, .int .u64 (m.x.cmd.id.ver : Int), .int .i64 m.x.cmd.id.idx, .int .u64 (m.x.cmd.id.ep : Int), .int .u64 (m.x.cmd.mep : Int), .slice m.A m.x.cmd.mem.length m.c, .slice m.B m.x.voters.length m.d, .slice m.E m.x.learners.length m.f] 68) = w6 := ⟨_, rfl⟩
        have hb6 : Below w5.heap.size w5 (w5.alloc (.cells #[.int .u64 (m.x.index : Int), .int .u64 (m.x.term : Int), .int .i64 m.x.kind, .int .i64 m.x.cmd.kind, .int .u64 (m.x.cmd.client : Int), .int .u64 (m.x.cmd.seq : Int), .string (strOf m.x.cmd.key), .int .i64 m.x.cmd.size, .int .u32 (m.x.cmd.sum : Int), .int .u64 (m.x.cmd.version : Int), .int .u64 (m.x.cmd.epoch : Int), .int .i64 m.x.cmd.group, .int .i64 m.x.cmd.node, .bool m.x.cmd.up, .int .u64 (m.x.cmd.id.ver : Int), .int .i64 m.x.cmd.id.idx, .int .u64 (m.x.cmd.id.ep : Int), .int .u64 (m.x.cmd.mep : Int), .slice m.A m.x.cmd.mem.length m.c, .slice m.B m.x.voters.length m.d, .slice m.E m.x.learners.length m.f] 68)) := (Below.refl _ _).alloc (Nat.le_refl _) _
        have hG2 : Blk (w5.alloc (.cells #[.int .u64 (m.x.index : Int), .int .u64 (m.x.term : Int), .int .i64 m.x.kind, .int .i64 m.x.cmd.kind, .int .u64 (m.x.cmd.client : Int), .int .u64 (m.x.cmd.seq : Int), .string (strOf m.x.cmd.key), .int .i64 m.x.cmd.size, .int .u32 (m.x.cmd.sum : Int), .int .u64 (m.x.cmd.version : Int), .int .u64 (m.x.cmd.epoch : Int), .int .i64 m.x.cmd.group, .int .i64 m.x.cmd.node, .bool m.x.cmd.up, .int .u64 (m.x.cmd.id.ver : Int), .int .i64 m.x.cmd.id.idx, .int .u64 (m.x.cmd.id.ep : Int), .int .u64 (m.x.cmd.mep : Int), .slice m.A m.x.cmd.mem.length m.c, .slice m.B m.x.voters.length m.d, .slice m.E m.x.learners.length m.f] 68)) w5.heap.size 68 #[.int .u64 (m.x.index : Int), .int .u64 (m.x.term : Int), .int .i64 m.x.kind, .int .i64 m.x.cmd.kind, .int .u64 (m.x.cmd.client : Int), .int .u64 (m.x.cmd.seq : Int), .string (strOf m.x.cmd.key), .int .i64 m.x.cmd.size, .int .u32 (m.x.cmd.sum : Int), .int .u64 (m.x.cmd.version : Int), .int .u64 (m.x.cmd.epoch : Int), .int .i64 m.x.cmd.group, .int .i64 m.x.cmd.node, .bool m.x.cmd.up, .int .u64 (m.x.cmd.id.ver : Int), .int .i64 m.x.cmd.id.idx, .int .u64 (m.x.cmd.id.ep : Int), .int .u64 (m.x.cmd.mep : Int), .slice m.A m.x.cmd.mem.length m.c, .slice m.B m.x.voters.length m.d, .slice m.E m.x.learners.length m.f] := Blk.new w5 _ _
        rw [ew6] at hb6 hG2 ⊢
        have hG1 := hG1.below hb6 hG1.lt
        refine hQ.out _ _ ⟨trivial, hH1.2.1.below hb6 hH1.2.1.lt, cells_below hH1.2.2 (Nat.lt_of_lt_of_le HADD.out hb5.size) hb6⟩ (fun hH2 => ?_)
        clear hQ K
        try simp only [Act.put, List.setIfInBounds_toArray, List.set_cons_zero, List.set_cons_succ]
        have hB6 : Below wb.heap.size wb w6 := (nd.out.trans (hb5.mono nd.out.size)).trans (hb6.mono (Nat.le_trans nd.out.size hb5.size))
        have HR6 := Lib.hid (HW2.out.trans (hB6.mono HW2.out.size))
        have HS6 := Lib.hid (HBR.out.trans (HR6.out.mono HBR.out.size))
        have HSE := Lib.hid (same_entry1 (wd.heap.size) (w5.heap.size) A1 c1 A2 c2 A3 c3 m.x m.A m.c m.B m.d m.E m.f w6 (Lib.hid (K1.out.later hB6)) (Lib.hid (K2.out.later hB6)) (Lib.hid (K3.out.later hB6)) (Lib.hid (HM.out.r1.later HS6.out)) (Lib.hid (HM.out.r2.later HS6.out)) (Lib.hid (HM.out.r3.later HS6.out)) HOKM.out (Lib.hid hG1) (Lib.hid hG2))
        refine wpAnyT_one 15 rfl (by kernel_rfl) (fun K hQ => ?_)
        rw [if_pos (by rfl)]
        go_simp
        (go_at_call 24; refine HSE.out.mono ?_; rintro e w7 ⟨rfl, hb7⟩)
        have HB7 := Lib.hid hb7
        refine hQ.out _ _ ⟨trivial, hH2.2.1.below hb7 hH2.2.1.lt, cells_below hH2.2.2 (Nat.lt_of_lt_of_le HADD.out (Nat.le_trans hb5.size hb6.size)) hb7⟩ (fun hH3 => ?_)
        clear hQ K
        try simp only [Act.put, List.setIfInBounds_toArray, List.set_cons_zero, List.set_cons_succ]
        refine wpAnyT_stay 16 (v := ?_) rfl (by kernel_rfl) (fun _ _ _ h => h) (Or.inl ⟨by rfl, ?_⟩) ⟨hH3.1, fun _ => hH3.2⟩ ?_
        rotate_left
        · (intro wy hx; go_simp <;> with_reducible rfl)
        try simp only [Act.put, List.setIfInBounds_toArray, List.set_cons_zero, List.set_cons_succ]
        refine wpAnyT_last 17 rfl (by kernel_rfl) (by decide) (fun K hQ => ?_)
        rw [if_pos (by rfl)]
        go_simp
        refine hQ.out _ _ trivial (fun hH7 => ?_)
        clear hQ K
        try simp only [Act.put, List.setIfInBounds_toArray, List.set_cons_zero, List.set_cons_succ]
        refine wpAnyT_done (by kernel_rfl) ?_ _
        clear hH hH1 hH2 hH3 hH7 hG1 hG2 ew5 ew6 hb5 hb6 hb7 hB6 HSE
        go_wp2
        exact ⟨⟨j + 1, p2, by omega, by go_num, rfl, Lib.hid HP2.out.symm, Lib.hid (HR6.out.trans (HB7.out.mono HR6.out.size))⟩, by simp [intOf]; omega⟩
      · as_aux_lemma =>
        rw [if_pos (by rfl)]
        refine wp_build1 (.tmp 86) rfl (#[.int .u64 (m.x.index : Int), .int .u64 (m.x.term : Int), .int .i64 m.x.kind, .int .i64 m.x.cmd.kind, .int .u64 (m.x.cmd.client : Int), .int .u64 (m.x.cmd.seq : Int), .string (strOf m.x.cmd.key), .int .i64 m.x.cmd.size, .int .u32 (m.x.cmd.sum : Int), .int .u64 (m.x.cmd.version : Int), .int .u64 (m.x.cmd.epoch : Int), .int .i64 m.x.cmd.group, .int .i64 m.x.cmd.node, .bool m.x.cmd.up, .int .u64 (m.x.cmd.id.ver : Int), .int .i64 m.x.cmd.id.idx, .int .u64 (m.x.cmd.id.ep : Int), .int .u64 (m.x.cmd.mep : Int), .slice m.A m.x.cmd.mem.length m.c, .slice m.B m.x.voters.length m.d, .slice m.E m.x.learners.length m.f]) rfl rfl ?_
        try simp only [Act.put, List.setIfInBounds_toArray, List.set_cons_zero, List.set_cons_succ]
        obtain ⟨w5, ew5⟩ : ∃ w5, wd.alloc (.cells #[.int .u64 (m.x.index : Int), .int .u64 (m.x.term : Int), .int .i64 m.x.kind, .int .i64 m.x.cmd.kind, .int .u64 (m.x.cmd.client : Int), .int .u64 (m.x.cmd.seq : Int), .string (strOf m.x.cmd.key), .int .i64 m.x.cmd.size, .int .u32 (m.x.cmd.sum : Int), .int .u64 (m.x.cmd.version : Int), .int .u64 (m.x.cmd.epoch : Int), .int .i64 m.x.cmd.group, .int .i64 m.x.cmd.node, .bool m.x.cmd.up, .int .u64 (m.x.cmd.id.ver : Int), .int .i64 m.x.cmd.id.idx, .int .u64 (m.x.cmd.id.ep : Int), .int .u64 (m.x.cmd.mep : Int), .slice m.A m.x.cmd.mem.length m.c, .slice m.B m.x.voters.length m.d, .slice m.E m.x.learners.length m.f] 68) = w5 := ⟨_, rfl⟩
        have hb5 : Below wd.heap.size wd (wd.alloc (.cells #[.int .u64 (m.x.index : Int), .int .u64 (m.x.term : Int), .int .i64 m.x.kind, .int .i64 m.x.cmd.kind, .int .u64 (m.x.cmd.client : Int), .int .u64 (m.x.cmd.seq : Int), .string (strOf m.x.cmd.key), .int .i64 m.x.cmd.size, .int .u32 (m.x.cmd.sum : Int), .int .u64 (m.x.cmd.version : Int), .int .u64 (m.x.cmd.epoch : Int), .int .i64 m.x.cmd.group, .int .i64 m.x.cmd.node, .bool m.x.cmd.up, .int .u64 (m.x.cmd.id.ver : Int), .int .i64 m.x.cmd.id.idx, .int .u64 (m.x.cmd.id.ep : Int), .int .u64 (m.x.cmd.mep : Int), .slice m.A m.x.cmd.mem.length m.c, .slice m.B m.x.voters.length m.d, .slice m.E m.x.learners.length m.f] 68)) := (Below.refl _ _).alloc (Nat.le_refl _) _
        have hG1 : Blk (wd.alloc (.cells #[.int .u64 (m.x.index : Int), .int .u64 (m.x.term : Int), .int .i64 m.x.kind, .int .i64 m.x.cmd.kind, .int .u64 (m.x.cmd.client : Int), .int .u64 (m.x.cmd.seq : Int), .string (strOf m.x.cmd.key), .int .i64 m.x.cmd.size, .int .u32 (m.x.cmd.sum : Int), .int .u64 (m.x.cmd.version : Int), .int .u64 (m.x.cmd.epoch : Int), .int .i64 m.x.cmd.group, .int .i64 m.x.cmd.node, .bool m.x.cmd.up, .int .u64 (m.x.cmd.id.ver : Int), .int .i64 m.x.cmd.id.idx, .int .u64 (m.x.cmd.id.ep : Int), .int .u64 (m.x.cmd.mep : Int), .slice m.A m.x.cmd.mem.length m.c, .slice m.B m.x.voters.length m.d, .slice m.E m.x.learners.length m.f] 68)) wd.heap.size 68 #[.int .u64 (m.x.index : Int), .int .u64 (m.x.term : Int), .int .i64 m.x.kind, .int .i64 m.x.cmd.kind, .int .u64 (m.x.cmd.client : Int), .int .u64 (m.x.cmd.seq : Int), .string (strOf m.x.cmd.key), .int .i64 m.x.cmd.size, .int .u32 (m.x.cmd.sum : Int), .int .u64 (m.x.cmd.version : Int), .int .u64 (m.x.cmd.epoch : Int), .int .i64 m.x.cmd.group, .int .i64 m.x.cmd.node, .bool m.x.cmd.up, .int .u64 (m.x.cmd.id.ver : Int), .int .i64 m.x.cmd.id.idx, .int .u64 (m.x.cmd.id.ep : Int), .int .u64 (m.x.cmd.mep : Int), .slice m.A m.x.cmd.mem.length m.c, .slice m.B m.x.voters.length m.d, .slice m.E m.x.learners.length m.f] := Blk.new wd _ _
        rw [ew5] at hb5 hG1 ⊢
        refine hQ.out _ _ ⟨trivial, hH.2.1.below hb5 hH.2.1.lt, cells_below hH.2.2 HADD.out hb5⟩ (fun hH1 => ?_)
        clear hQ K
        try simp only [Act.put, List.setIfInBounds_toArray, List.set_cons_zero, List.set_cons_succ]
        refine wpAnyT_one 9 rfl (by kernel_rfl) (fun K hQ => ?_)
        rw [if_pos (by rfl)]
        refine wp_build1 (.tmp 81) rfl (#[.int .u64 (m.x.index : Int), .int .u64 (m.x.term : Int), .int .i64 m.x.kind, .int .i64 m.x.cmd.kind, .int .u64 (m.x.cmd.client : Int), .int .u64 (m.x.cmd.seq : Int), .string (strOf m.x.cmd.key), .int .i64 m.x.cmd.size, .int .u32 (m.x.cmd.sum : Int), .int .u64 (m.x.cmd.version : Int), .int .u64 (m.x.cmd.epoch : Int), .int .i64 m.x.cmd.group, .int .i64 m.x.cmd.node, .bool m.x.cmd.up, .int .u64 (m.x.cmd.id.ver : Int), .int .i64 m.x.cmd.id.idx, .int .u64 (m.x.cmd.id.ep : Int), .int .u64 (m.x.cmd.mep : Int), .slice A1 m.x.cmd.mem.length c1, .slice A2 m.x.voters.length c2, .slice A3 m.x.learners.length c3]) rfl rfl ?_
        try simp only [Act.put, List.setIfInBounds_toArray, List.set_cons_zero, List.set_cons_succ]
        obtain ⟨w6, ew6⟩ : ∃ w6, w5.alloc (.cells #[.int .u64 (m.x.index : Int), .int .u64 (m.x.term : Int), .int .i64 m.x.kind, .int .i64 m.x.cmd.kind, .int .u64 (m.x.cmd.client : Int), .int .u64 (m.x.cmd.seq : Int), .string (strOf m.x.cmd.key), .int .i64 m.x.cmd.size, .int .u32 (m.x.cmd.sum : Int), .int .u64 (m.x.cmd.version : Int), .int .u64 (m.x.cmd.epoch : Int), .int .i64 m.x.cmd.group, .int .i64 m.x.cmd.node, .bool m.x.cmd.up, .int .u64 (m.x.cmd.id.ver : Int), .int .i64 m.x.cmd.id.idx, .int .u64 (m.x.cmd.id.ep : Int), .int .u64 (m.x.cmd.mep : Int), .slice A1 m.x.cmd.mem.length c1, .slice A2 m.x.voters.length c2, .slice A3 m.x.learners.length c3] 68) = w6 := ⟨_, rfl⟩
        have hb6 : Below w5.heap.size w5 (w5.alloc (.cells #[.int .u64 (m.x.index : Int), .int .u64 (m.x.term : Int), .int .i64 m.x.kind, .int .i64 m.x.cmd.kind, .int .u64 (m.x.cmd.client : Int), .int .u64 (m.x.cmd.seq : Int), .string (strOf m.x.cmd.key), .int .i64 m.x.cmd.size, .int .u32 (m.x.cmd.sum : Int), .int .u64 (m.x.cmd.version : Int), .int .u64 (m.x.cmd.epoch : Int), .int .i64 m.x.cmd.group, .int .i64 m.x.cmd.node, .bool m.x.cmd.up, .int .u64 (m.x.cmd.id.ver : Int), .int .i64 m.x.cmd.id.idx, .int .u64 (m.x.cmd.id.ep : Int), .int .u64 (m.x.cmd.mep : Int), .slice A1 m.x.cmd.mem.length c1, .slice A2 m.x.voters.length c2, .slice A3 m.x.learners.length c3] 68)) := (Below.refl _ _).alloc (Nat.le_refl _) _
        have hG2 : Blk (w5.alloc (.cells #[.int .u64 (m.x.index : Int), .int .u64 (m.x.term : Int), .int .i64 m.x.kind, .int .i64 m.x.cmd.kind, .int .u64 (m.x.cmd.client : Int), .int .u64 (m.x.cmd.seq : Int), .string (strOf m.x.cmd.key), .int .i64 m.x.cmd.size, .int .u32 (m.x.cmd.sum : Int), .int .u64 (m.x.cmd.version : Int), .int .u64 (m.x.cmd.epoch : Int), .int .i64 m.x.cmd.group, .int .i64 m.x.cmd.node, .bool m.x.cmd.up, .int .u64 (m.x.cmd.id.ver : Int), .int .i64 m.x.cmd.id.idx, .int .u64 (m.x.cmd.id.ep : Int), .int .u64 (m.x.cmd.mep : Int), .slice A1 m.x.cmd.mem.length c1, .slice A2 m.x.voters.length c2, .slice A3 m.x.learners.length c3] 68)) w5.heap.size 68 #[.int .u64 (m.x.index : Int), .int .u64 (m.x.term : Int), .int .i64 m.x.kind, .int .i64 m.x.cmd.kind, .int .u64 (m.x.cmd.client : Int), .int .u64 (m.x.cmd.seq : Int), .string (strOf m.x.cmd.key), .int .i64 m.x.cmd.size, .int .u32 (m.x.cmd.sum : Int), .int .u64 (m.x.cmd.version : Int), .int .u64 (m.x.cmd.epoch : Int), .int .i64 m.x.cmd.group, .int .i64 m.x.cmd.node, .bool m.x.cmd.up, .int .u64 (m.x.cmd.id.ver : Int), .int .i64 m.x.cmd.id.idx, .int .u64 (m.x.cmd.id.ep : Int), .int .u64 (m.x.cmd.mep : Int), .slice A1 m.x.cmd.mem.length c1, .slice A2 m.x.voters.length c2, .slice A3 m.x.learners.length c3] := Blk.new w5 _ _
        rw [ew6] at hb6 hG2 ⊢
        have hG1 := hG1.below hb6 hG1.lt
        refine hQ.out _ _ ⟨trivial, hH1.2.1.below hb6 hH1.2.1.lt, cells_below hH1.2.2 (Nat.lt_of_lt_of_le HADD.out hb5.size) hb6⟩ (fun hH2 => ?_)
        clear hQ K
        try simp only [Act.put, List.setIfInBounds_toArray, List.set_cons_zero, List.set_cons_succ]
        have hB6 : Below wb.heap.size wb w6 := (nd.out.trans (hb5.mono nd.out.size)).trans (hb6.mono (Nat.le_trans nd.out.size hb5.size))
        have HR6 := Lib.hid (HW2.out.trans (hB6.mono HW2.out.size))
        have HS6 := Lib.hid (HBR.out.trans (HR6.out.mono HBR.out.size))
        have HSE := Lib.hid (same_entry1 (w5.heap.size) (wd.heap.size) A1 c1 A2 c2 A3 c3 m.x m.A m.c m.B m.d m.E m.f w6 (Lib.hid (K1.out.later hB6)) (Lib.hid (K2.out.later hB6)) (Lib.hid (K3.out.later hB6)) (Lib.hid (HM.out.r1.later HS6.out)) (Lib.hid (HM.out.r2.later HS6.out)) (Lib.hid (HM.out.r3.later HS6.out)) HOKM.out (Lib.hid hG2) (Lib.hid hG1))
        refine wpAnyT_one 15 rfl (by kernel_rfl) (fun K hQ => ?_)
        rw [if_pos (by rfl)]
        go_simp
        (go_at_call 24; refine HSE.out.mono ?_; rintro e w7 ⟨rfl, hb7⟩)
        have HB7 := Lib.hid hb7
        refine hQ.out _ _ ⟨trivial, hH2.2.1.below hb7 hH2.2.1.lt, cells_below hH2.2.2 (Nat.lt_of_lt_of_le HADD.out (Nat.le_trans hb5.size hb6.size)) hb7⟩ (fun hH3 => ?_)
        clear hQ K
        try simp only [Act.put, List.setIfInBounds_toArray, List.set_cons_zero, List.set_cons_succ]
        refine wpAnyT_stay 16 (v := ?_) rfl (by kernel_rfl) (fun _ _ _ h => h) (Or.inl ⟨by rfl, ?_⟩) ⟨hH3.1, fun _ => hH3.2⟩ ?_
        rotate_left
        · (intro wy hx; go_simp <;> with_reducible rfl)
        try simp only [Act.put, List.setIfInBounds_toArray, List.set_cons_zero, List.set_cons_succ]
        refine wpAnyT_last 17 rfl (by kernel_rfl) (by decide) (fun K hQ => ?_)
        rw [if_pos (by rfl)]
        go_simp
        refine hQ.out _ _ trivial (fun hH7 => ?_)
        clear hQ K
        try simp only [Act.put, List.setIfInBounds_toArray, List.set_cons_zero, List.set_cons_succ]
        refine wpAnyT_done (by kernel_rfl) ?_ _
        clear hH hH1 hH2 hH3 hH7 hG1 hG2 ew5 ew6 hb5 hb6 hb7 hB6 HSE
        go_wp2
        exact ⟨⟨j + 1, p2, by omega, by go_num, rfl, Lib.hid HP2.out.symm, Lib.hid (HR6.out.trans (HB7.out.mono HR6.out.size))⟩, by simp [intOf]; omega⟩
    · obtain rfl : j = k := by omega
      have dj : decide (j < j) = false := decide_eq_false hlt
      obtain rfl : p = N := by rw [hp.out]; exact HTN.out
      have HC := Lib.hid (HXU.out wr (Lib.hid (HI0.out.later HB.out)) (p : Int))
      rw [HEN.out] at HC
      clear hlt
      go_wp2_with fail
      refine HC.out.mono ?_
      rintro e wa ⟨hb, v, rfl, A1, c1, A2, c2, A3, c3, rfl, -, -, -, -⟩
      unfold entCs
      have HW1 := Lib.hid (HB.out.trans (hb.mono HB.out.size))
      clear hb HC
      go_wp2_with (first
        | (refine wpl_store_blk rfl 68 (.tmp 11) (.tmp 96) rfl wa.heap.size 68 #[.int .u64 0, .int .u64 0, .int .i64 0, .int .i64 0, .int .u64 0, .int .u64 0, .string ⟨#[]⟩, .int .i64 0, .int .u32 0, .int .u64 0, .int .u64 0, .int .i64 0, .int .i64 0, .bool false, .int .u64 0, .int .i64 0, .int .u64 0, .int .u64 0, .slice none 0 0, .slice none 0 0, .slice none 0 0] #[.int .u64 (ent0.index : Int), .int .u64 (ent0.term : Int), .int .i64 ent0.kind, .int .i64 ent0.cmd.kind, .int .u64 (ent0.cmd.client : Int), .int .u64 (ent0.cmd.seq : Int), .string (strOf ent0.cmd.key), .int .i64 ent0.cmd.size, .int .u32 (ent0.cmd.sum : Int), .int .u64 (ent0.cmd.version : Int), .int .u64 (ent0.cmd.epoch : Int), .int .i64 ent0.cmd.group, .int .i64 ent0.cmd.node, .bool ent0.cmd.up, .int .u64 (ent0.cmd.id.ver : Int), .int .i64 ent0.cmd.id.idx, .int .u64 (ent0.cmd.id.ep : Int), .int .u64 (ent0.cmd.mep : Int), .slice A1 ent0.cmd.mem.length c1, .slice A2 ent0.voters.length c2, .slice A3 ent0.learners.length c3] rfl rfl (Blk.new wa _ _) rfl Try.sizeE rfl ?_; intro wb hB1 hO1
           have hs : Below wa.heap.size wa wb := ((Below.refl _ _).alloc (Nat.le_refl _) _).trans (hO1.out.below (Nat.le_refl _))
           have HW2 := Lib.hid (HW1.out.trans (hs.mono HW1.out.size))
           clear hs hO1 hB1)
        | (go_at_call 21; refine (heads_any wb).mono ?_; rintro e wh ⟨rfl, hb⟩; have HW3 := Lib.hid (HW2.out.trans (hb.mono HW2.out.size)); clear hb))
      go_ret
      exact ⟨rfl, HBR.out.trans (HW3.out.mono HBR.out.size)⟩
set_option maxRecDepth 100000 in
theorem walk_PackRows {H : Type} {enc : TypeId × Value → H} (W : World) {base : Nat} (v : Value) (d : DataW H) (p : List MemPlace) (h : DataW.Trod enc Try.prog W 0 (fun _ => true) true 65 v d p) (hok : Value.okWide Try.prog W .any base 65 v) :
    Calls Try.prog 4 #[v] W fun e w' => e = .returned (.bool true) ∧ Below W.heap.size W w' := by
  obtain ⟨A0, len0, cap0, rfl⟩ := Go.WideShapes.okWide_slice Try.underlying65 hok
  obtain ⟨fuel, hf⟩ := h
  have hv : (Value.slice A0 len0 cap0).cells.toList = [.slice A0 len0 cap0] := rfl
  rw [hv] at hf
  obtain ⟨A, n, cap, es, e, hr, hl, he, hc, hm⟩ := open_ems hf
  injection e with e1 e2 e3
  subst e1 e2 e3
  exact rows_any A0 len0 cap0 es W (Lib.hid hr) (Lib.hid hl) (Lib.hid he) (by unfold maxLen at hm; omega)
namespace packRows
open Go.ChangeShapes Go.WideShapes Go.ChangeAt Go.RowKit
open Go.ChangeMaps (open_string shut_string)
set_option linter.unusedVariables false
theorem own : ownKnob Try.prog.godebug = none := by kernel_rfl
theorem laidOut : laidOutB Try.prog = true := by kernel_rfl
set_option maxRecDepth 100000 in
theorem contract (H : Type) (enc : TypeId × Value → H) (W : World) (base : Nat) (args : Array Value) (ds gs : List (DataW H)) (before : List MemPlace)
    (hval0 : ∀ (j : Nat) t v, Try.f4.params[j]? = some t → args[j]? = some v → Value.okWide Try.prog W .any base t v)
    (hW : DataW.Whole enc Try.prog Try.f4.params.toList Rows.packRowsSpec.vars false W args.toList ds gs before) :
    Calls Try.prog 4 args W fun e W' => ∃ v, e = .returned v ∧ Rows.packRowsSpec.post enc Try.prog Try.f4 false true false false W args v W' := by
  have hval : ∀ (j : Nat) t v, Try.f4.params[j]? = some t → args[j]? = some v → Value.okWide Try.prog W .any base t v := hval0
  have hW' := hW
  obtain ⟨p, q, hA0, hV, rfl, hfz, hnd⟩ := hW
  have hA : DataW.TrodAll enc Try.prog W 0 (fun _ => true) true Try.f4.params.toList args.toList ds p := hA0
  rw [Try.params4] at hA hval
  obtain ⟨v0, vs0, d0, ds0, p0, q0, hargs, rfl, rfl, h0, r0⟩ := trodAll_cons hA
  obtain ⟨rfl, rfl, rfl⟩ := trodAll_nil r0
  obtain rfl : args = #[v0] := by cases args; simp_all
  obtain ⟨rfl, rfl⟩ := trodVars_none hV
  have k0 := h0
  have lt0 : ∀ x ∈ p0, x.block < W.heap.size := by obtain ⟨m, hm⟩ := k0; exact DataW.trod_lt m _ _ _ hm
  clear hA0 hval0
  refine (walk_PackRows W v0 d0 p0 h0 (hval 0 65 v0 rfl rfl)).mono fun e W' ⟨he, bel⟩ => ?_
  subst he
  exact ⟨_, rfl, _, _, _, [], _, [], hW', trodAll_mk1 (shut_bool Try.underlying4 _), (trodAll_cons_mk (Below.trod laidOut (by kernel_rfl) (of_decide_eq_true (by kernel_rfl)) k0 bel lt0) trodAll_mk0), rfl, bel.frame _, fun h => by cases h⟩
set_option maxRecDepth 100000 in
theorem lifted (os : Os) (started : os.Started) (H : Type) (enc : TypeId × Value → H) :
    ReturnsInHanded {} Try.checked os 4 .any (Rows.packRowsSpec.pre6 enc Try.prog Try.f4 Rows.packRowsRow.domain false) (Rows.packRowsSpec.post enc Try.prog Try.f4 false true false false) := by
  refine returnsInHanded_of_change (C := Try.checked) own started (by kernel_rfl) Try.func4
    (ChangeSpec.witness6 (enc := enc) (C := Try.checked) false ⟨#[], #[.slice none 0 0], []⟩ 8 (by kernel_rfl) (by kernel_rfl) (by kernel_rfl) (by kernel_rfl)) ?_
  intro W base args ds gs before hval hW _ _
  exact contract H enc W base args ds gs before hval hW
theorem over : Rows.packRowsRow.holds Try.pinned (OpenSpec.ofChange Rows.packRowsSpec) :=
  OpenClaim.holds_of_wide 4 Try.f4 rfl rfl rfl rfl rfl rfl rfl ⟨rfl, rfl, rfl, rfl, rfl⟩ rfl rfl rfl rfl rfl (by kernel_rfl) Try.func4 (by kernel_rfl)
    (of_decide_eq_true (by kernel_rfl)) (by unfold Func.isWrapper; first | (rw [if_pos (by decide +kernel)]; kernel_rfl) | (rw [if_neg (by decide +kernel)]; exact ⟨rfl, rfl⟩))
    (fun os started H enc _ => lifted os started H enc)
/-- THE STATEMENT. -/
theorem proved : Rows.PackRowsSaid := over
end packRows
end Go.Proofs.Ythgiafjiemiifaa
