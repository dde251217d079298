/-
  MetaCuts is true: a new map comes into force only when all objects and intents lie by it, and what was given up is never committed. For every input.
  (printed by gen_mecuts.py)
-/
import Derived.Test.YtdoneomahlfkbaaGreatMcm26
import Derived.Test.YtdoneomahlfkbaaGreatMcm27
namespace Go.Proofs.YtdoneomahlfkbaaGreat
open Go.RowKit OctMath StrMath PlMath
set_option linter.unusedVariables false
set_option linter.unusedSimpArgs false
def uv (v : Nat) : Value := .int .u64 (v : Int)
theorem Tryz.infoU : (Tryz.prog.info? 24).map (fun i => (i.zero, i.size, i.bytes)) = some (some (.int .u64 0), 1, 8) := by kernel_rfl
theorem reads_uv {w : World} {B n : Nat} {A : Option Addr} {xs : List Nat} (h : Reads w B 1 A n (xs.map uv)) {k : Nat} (hk : k < n) :
    ∃ ad, A = some ad ∧ ad.block < B ∧ w.cell? (ad.add k) = some (.int .u64 ((xs.getD k 0 : Nat) : Int)) := by
  have hn : xs.length = n := by simpa using h.1
  obtain ⟨ad, u, e, hb, hu, hc⟩ := h.at_ hk
  refine ⟨ad, e, hb, ?_⟩
  rw [List.getElem?_map, List.getElem?_eq_getElem (by omega)] at hu
  rw [hc, ← hu, List.getD_eq_getElem?_getD, List.getElem?_eq_getElem (by omega)]
  rfl
theorem wpl_up {ops : Array Oper} {rest : List Oper} {o : Oper} {a : Act} {Q : Exit → Act → World → Prop} {wr : World} {base : Nat} {v : Value} {l : List Nat} (hg : o.guard = none) (s x : Operand)
    (ho : o.op = .call { callee := .builtin .append, args := #[s, x], argTypes := #[55, 55] }) (hrow : wr.ownsRow base 24 1 v l.length (l.map uv)) (hb : base ≤ wr.heap.size) (hl : l.length ≤ 1000) (y : Nat) (hs : a.eval s = v) (hx : a.eval x = .slice (some ⟨wr.heap.size, 0, none⟩) 1 1)
    (h : ∀ v' w', Hid (w'.ownsRow base 24 1 v' (l.length + 1) (l.map uv ++ [uv y])) → Hid ((wr.alloc (.cells #[.int .u64 (y : Int)] 24)).grownBy w' v.ownBlock) → Hid (v'.ownBlock = v.ownBlock ∨ v'.ownBlock = some (wr.alloc (.cells #[.int .u64 (y : Int)] 24)).heap.size) → wpList Tryz.prog ops Q rest (a.put o.dst v') w') : wpList Tryz.prog ops Q (o :: rest) a (wr.alloc (.cells #[.int .u64 (y : Int)] 24)) := by
  obtain ⟨i, hi, h2, h3, h4⟩ := info_parts Tryz.infoU
  exact wpList_append_any _ hg s x 55 ho base 24 i (.int .u64 0) 1 8 Tryz.underlying55 hi h2 h3 h4 rfl (by decide) v l.length (l.map uv) hs (hrow.alloc _) (wr.heap.size + 1) (some ⟨wr.heap.size, 0, none⟩) 1 1 [uv y] hx
    (Reads.lit1 wr 24 (uv y)) (by intro u hu; rw [List.mem_singleton.1 hu]; rfl) (by unfold maxLen; omega) (by omega) (by simp; omega) fun v' w' k1 k2 k3 => h v' w' (Lh k1) (Lh k2) (Lh k3)
structure UpS (base : Nat) (G : List Nat) (v : Value) (l : List Nat) (w : World) : Prop where
  row : w.ownsRow base 24 1 v l.length (l.map uv)
  blk : ∀ g, v.ownBlock = some g → g ∈ G
  sz : base ≤ w.heap.size
theorem UpS.later {base : Nat} {G : List Nat} {v : Value} {l : List Nat} {w w' : World} (h : UpS base G v l w) (hb : Below w.heap.size w w') : UpS base G v l w' := ⟨h.row.kept (gb_below hb none) (by cases e : v.ownBlock with | none => exact .inl rfl | some g => exact .inr (by simp)), h.blk, Nat.le_trans h.sz hb.size⟩
theorem UpS.store {base : Nat} {G : List Nat} {v : Value} {l : List Nat} {w w' : World} {b : Nat} (h : UpS base G v l w) (ho : Only b w w') (hb : b < base) : UpS base G v l w' := ⟨h.row.kept (gb_only ho) (.inr fun e => by have := (h.row.lt b e).1; omega), h.blk, by rw [ho.size]; exact h.sz⟩
theorem min_grown {x x' : World} {m : MM} {r : Option Nat} (h : MIn m x) (hg : x.grownBy x' r) (hf : ∀ g, r = some g → m.All (·.Off g)) : MIn m x' := by
  cases r with
  | none => exact h.later ⟨hg.os, hg.tape, hg.output, hg.size, fun i hi => hg.block i hi (by simp)⟩
  | some g => exact ⟨⟨fun r k => (h.rows.top r k).grown ((hf g rfl).top r k) hg, fun r k => (h.rows.os r k).grown ((hf g rfl).os r k) hg, fun r k => (h.rows.is r k).grown ((hf g rfl).is r k) hg⟩, h.os, h.is, h.wf⟩
structure CutS (w : World) (G : List Nat) (m' : MM) (b3 b7 : Nat) (cs mcs : Array Value) (x : World) : Prop where
  bel : Below w.heap.size w x
  inn : MIn m' x
  off : ∀ q ∈ G, m'.All (·.Off q)
  lt : ∀ q ∈ G, w.heap.size ≤ q ∧ q < x.heap.size
  b3 : Blk x b3 34 cs
  b7 : Blk x b7 34 mcs
theorem CutS.later {w : World} {G : List Nat} {m' : MM} {b3 b7 : Nat} {cs mcs : Array Value} {x x' : World} (h : CutS w G m' b3 b7 cs mcs x) (hb : Below x.heap.size x x') : CutS w G m' b3 b7 cs mcs x' :=
  ⟨h.bel.trans (hb.mono h.bel.size), h.inn.later hb, h.off, fun q hq => ⟨(h.lt q hq).1, Nat.lt_of_lt_of_le (h.lt q hq).2 hb.size⟩, h.b3.below hb h.b3.lt, h.b7.below hb h.b7.lt⟩
theorem up_more {w x x' : World} {base b3 b7 : Nat} {G : List Nat} {m' : MM} {cs mcs : Array Value} {v v' : Value} {l : List Nat} {y : Nat} (hc : CutS w G m' b3 b7 cs mcs x) (hu : UpS base G v l x) (h3 : b3 < base) (h7 : b7 ∉ G) (hwb : w.heap.size ≤ base)
    (hr : x'.ownsRow base 24 1 v' (l.length + 1) (l.map uv ++ [uv y])) (hg : (x.alloc (.cells #[.int .u64 (y : Int)] 24)).grownBy x' v.ownBlock) (ho : v'.ownBlock = v.ownBlock ∨ v'.ownBlock = some (x.alloc (.cells #[.int .u64 (y : Int)] 24)).heap.size) :
    ∃ G', (∀ q ∈ G, q ∈ G') ∧ CutS w G' m' b3 b7 cs mcs x' ∧ UpS base G' v' (l ++ [y]) x' := by
  have hb : Below x.heap.size x (x.alloc (.cells #[.int .u64 (y : Int)] 24)) := (Below.refl _ _).alloc (Nat.le_refl _) _
  have hc1 := hc.later hb
  have hne3 : ∀ g, v.ownBlock = some g → b3 ≠ g := fun g e => by have := (hu.row.lt g e).1; omega
  have hne7 : ∀ g, v.ownBlock = some g → b7 ≠ g := fun g e q => h7 (by rw [q]; exact hu.blk g e)
  have hoff : ∀ g, v.ownBlock = some g → m'.All (·.Off g) := fun g e => hc.off g (hu.blk g e)
  have hin := min_grown hc1.inn hg hoff
  have hb3 : Blk x' b3 34 cs := hc1.b3.grown hg (fun e => hne3 b3 e.symm rfl)
  have hb7 : Blk x' b7 34 mcs := hc1.b7.grown hg (fun e => hne7 b7 e.symm rfl)
  have hbel : Below w.heap.size w x' := ⟨hg.os.trans hc1.bel.os, hg.tape.trans hc1.bel.tape, hg.output.trans hc1.bel.output, Nat.le_trans hc1.bel.size hg.size, fun i hi => (hg.block i (Nat.lt_of_lt_of_le hi hc1.bel.size) (fun e => by have := (hu.row.lt i e.symm).1; omega)).trans (hc1.bel.block i hi)⟩
  have hrow : x'.ownsRow base 24 1 v' (l ++ [y]).length ((l ++ [y]).map uv) := by rw [List.length_append, List.map_append]; exact hr
  have hsz : base ≤ x'.heap.size := Nat.le_trans hu.sz (Nat.le_trans hb.size hg.size)
  have hlt : ∀ q ∈ G, w.heap.size ≤ q ∧ q < x'.heap.size := fun q hq => ⟨(hc1.lt q hq).1, Nat.lt_of_lt_of_le (hc1.lt q hq).2 hg.size⟩
  rcases ho with ho | ho
  · exact ⟨G, fun q hq => hq, ⟨hbel, hin, hc.off, hlt, hb3, hb7⟩, hrow, fun g e => hu.blk g (by rw [← ho]; exact e), hsz⟩
  · refine ⟨(x.alloc (.cells #[.int .u64 (y : Int)] 24)).heap.size :: G, fun q hq => List.mem_cons_of_mem _ hq, ⟨hbel, hin, fun q hq => ?_, fun q hq => ?_, hb3, hb7⟩, hrow, fun g e => ?_, hsz⟩
    · rcases List.mem_cons.1 hq with rfl | hq
      · exact hc1.inn.rows.imp fun r hr => hr.off (Nat.le_refl _)
      · exact hc.off q hq
    · rcases List.mem_cons.1 hq with rfl | hq
      · exact ⟨hc1.bel.size, (hrow.lt _ ho).2⟩
      · exact hlt q hq
    · rw [ho] at e
      injection e with e
      rw [← e]
      exact List.mem_cons_self
set_option maxRecDepth 100000 in
set_option maxHeartbeats 16000000 in
theorem cuts_any (A : Option Addr) (n cap : Nat) (cms : List CM) (w : World) (HRD : Hid (Reads w w.heap.size 16 A n (cms.flatMap cmL))) (HLN : Hid (cms.length = n)) (HCW : Hid (∀ m ∈ cms, CmW w m)) :
    Calls Tryz.prog 6 #[.slice A n cap] w fun e w' => e = .returned (.bool true) ∧ Below w.heap.size w w' := by
  have HHD := Lh (fun W => heads_any W)
  by_cases hn : n ≤ 150
  · have d1 : decide ((n : Int) > 150) = false := decide_eq_false (by omega)
    have d2 : decide (150 < (n : Int)) = false := decide_eq_false (by omega)
    have d3 : decide (150 < n) = false := decide_eq_false (by omega)
    have HRUN := Lh (run_any none 0 0 [] w (Lh ⟨rfl, fun h => absurd h (Nat.lt_irrefl 0)⟩) (Lh rfl) (Lh fun m hm => by cases hm) (by omega))
    go_enter Tryz.func6, Tryz.ntmps6
    go_wp2_with (fail)
    refine HRUN.out.mono ?_
    rintro e w2 ⟨m0, rfl, hin, hrun, hm0, hb⟩
    have HB2 := Lh hb
    have HIN := Lh hin
    have HR := Lh hrun
    have EM0 := Lh (hm0 (by first | trivial | rfl))
    clear hb hin hrun HRUN d1 d2 d3 hm0
    obtain ⟨cs, ecs⟩ : ∃ cs, m0.cs = cs := ⟨_, rfl⟩
    have ECS := Lh ecs
    have HCS := Lh (show cs.size = 14 from by rw [← ecs]; rfl)
    have HCO := Lh (show cs.toList.all (·.oneCell') = true from by rw [← ecs]; rfl)
    rw [ecs]
    clear ecs
    go_upto_region 6 with (refine wpl_store_blk rfl 34 (.tmp 3) (.tmp 19) rfl w2.heap.size 34 mZ cs rfl rfl (Blk.new w2 _ _) (by rw [HCS.out]; rfl) (by rw [HCS.out]; exact Tryz.szSt) HCO.out ?_; intro w3 hB3 hO3)
    have hb3 : Below w2.heap.size w2 w3 := ((Below.refl _ _).alloc (Nat.le_refl _) _).trans (hO3.out.below (Nat.le_refl _))
    have RW0 := Lh (show RunW w [w2.heap.size] w2.heap.size m0 0 w3 from ⟨HB2.out.trans (hb3.mono HB2.out.size), by rw [ECS.out]; exact hB3.out, HIN.out.later hb3, fun q hq => by
      rw [List.mem_singleton.1 hq]
      exact HIN.out.rows.imp fun r hr => hr.off (Nat.le_refl _), fun q hq => by
      rw [List.mem_singleton.1 hq]
      exact ⟨HB2.out.size, hB3.out.lt⟩, by simp, HR.out⟩)
    obtain ⟨b3, e3⟩ : ∃ b3, w2.heap.size = b3 := ⟨_, rfl⟩
    rw [e3] at RW0 ⊢
    obtain ⟨GG, eGG⟩ : ∃ GG, [b3] = GG := ⟨_, rfl⟩
    rw [eGG] at RW0
    clear eGG e3 hB3 hO3 hb3 HCS HCO ECS HIN HR HB2
    have H3B := Lh (show b3 < w3.heap.size from RW0.out.blk.lt)
    obtain ⟨base, ebase⟩ : ∃ base, w3.heap.size = base := ⟨_, rfl⟩
    have HWB := Lh (show w.heap.size ≤ base from by rw [← ebase]; exact RW0.out.bel.size)
    have UP0 := Lh (show UpS base GG (.slice none 0 0) [] w3 from ⟨⟨rfl, .inl ⟨rfl, rfl⟩⟩, (fun g e => by cases e), (by rw [← ebase]; exact Nat.le_refl _)⟩)
    rw [ebase] at H3B
    clear ebase
    go_wp2_with fail
    go_loopw [5, 6] (fun vu vi wr => ∃ (k : Nat) (m : MM) (U GG : List Nat), k ≤ n ∧ U.length ≤ k ∧ vi = .int .i64 k ∧ Hid (RunW w GG b3 m k wr) ∧ Hid (UpS base GG vu U wr) ∧ Hid (∀ v ∈ U, Gone m.x v)) (fun _ vi _ => n - (intOf vi).toNat)
    case atStart => exact ⟨0, m0, [], GG, by omega, Nat.le_refl _, rfl, RW0, UP0, Lh fun v h => by cases h⟩
    case round =>
      obtain ⟨k, m, U, GG, hk, hul, rfl, RW, UP, HGO⟩ := hrel
      by_cases hlt : k < n
      · have hmsl : k < cms.length := by have := HLN.out; omega
        obtain ⟨ad, rfl, hadb, hcell⟩ := elem_cells (cells := cmL) (K := 16) (fun _ => rfl) (HRD.out.later RW.out.bel) hmsl (by omega)
        have hcw := HCW.out cms[k] (List.getElem_mem hmsl)
        obtain ⟨cm, ecm⟩ : ∃ cm, cms[k] = cm := ⟨_, rfl⟩
        rw [ecm] at hcell hcw
        have HAD := Lh hadb
        obtain ⟨q, hq⟩ : ∃ q, k + 1 = q := ⟨_, rfl⟩
        have HQ := Lh hq
        have hw1 : IntKind.i64.wrap ((k : Int) + 1) = (q : Int) := by rw [IntKind.wrap_i64]; omega
        have hw2 : IntKind.u64.wrap (q : Int) = (q : Int) := by rw [IntKind.wrap_u64]; omega
        have hap := ap_calls RW.out.inn RW.out.run (by omega) RW.out.off RW.out.lt RW.out.bel cm hcw
        obtain ⟨cs, ecs⟩ : ∃ cs, m.cs = cs := ⟨_, rfl⟩
        have ECS := Lh ecs
        have HCS := Lh (show cs.size = 14 from by rw [← ecs]; rfl)
        have HCO := Lh (show cs.toList.all (·.oneCell') = true from by rw [← ecs]; rfl)
        have HBS := Lh (show Blk wr b3 34 cs from by rw [← ecs]; exact RW.out.blk)
        obtain ⟨ks, eks⟩ : ∃ ks, cmdCs cm.x cm.A cm.c = ks := ⟨_, rfl⟩
        have EKS := Lh eks
        have HKS := Lh (show ks.size = 16 from by rw [← eks]; rfl)
        have HC1 : Hid (∀ j' v, ks.toList[j']? = some v → wr.cell? ((ad.add (k * 16)).add j') = some v) := by rw [← eks]; exact Lh hcell
        have HAP := Lh (show ∀ W, Below wr.heap.size wr W → ∀ G1 : List Nat, (∀ q ∈ G1, wr.heap.size ≤ q ∧ q < W.heap.size) → Calls Tryz.prog 9 #[.agg cs, .int .u64 (q : Int), .agg ks] W (RetApp (applyM plF m.x (k + 1) cm.x) (G1 ++ GG) W) from by rw [← hq, ← ecs, ← eks]; exact hap)
        clear ecm hmsl hadb hcell hcw hq hap ecs eks
        go_upto_region 10 with (fail)
        go_cut [7, 8, 9] from 23 to 133 (fun s7 s8 s9 wx => ∃ (b7 b8 : Nat) (m' : MM) (rr : Array Value), s7 = .pointer (some ⟨b7, 0, none⟩) ∧ s8 = .pointer (some ⟨b8, 0, none⟩) ∧ s9 = .int .i64 0 ∧ Hid (ApS wr GG (applyM plF m.x (k + 1) cm.x) m' b7 b8 rr wx))
        case first =>
          refine wp_region_late (S0 := fun w' => Below wr.heap.size wr w') (S := fun _ => True) 16 18 (by kernel_rfl) rfl ⟨(Below.refl _ _).drew, trivial⟩ (fun x0 hwd hH => ?_)
          have BX0 := Lh (show Below wr.heap.size wr x0 from by rw [hwd]; exact (Below.refl _ _).drew)
          clear hwd
          refine wpAnyT_stay 0 rfl (by kernel_rfl) (fun _ _ _ h => h) (yields_load_blk rfl 34 (.tmp 3) rfl b3 34 cs _ rfl (fun w' hw' => HBS.out.below hw' HBS.out.lt) Tryz.underlying34 rfl (by rw [HCS.out]; exact Tryz.szSt)) ⟨hH.1, fun _ => hH.2⟩ ?_
          try simp only [Act.put, pA9, pZ9, pS9]
          refine wpAnyT_stay 1 (v := ?_) rfl (by kernel_rfl) (fun _ _ _ h => h) (Or.inl ⟨by rfl, ?_⟩) ⟨hH.1, fun _ => hH.2⟩ ?_
          rotate_left
          · (intro wx hx; go_simp <;> with_reducible rfl)
          try simp only [Act.put, pA9, pZ9, pS9]
          refine wpAnyT_stay 2 (v := ?_) rfl (by kernel_rfl) (fun _ _ _ h => h) (Or.inl ⟨by rfl, ?_⟩) ⟨hH.1, fun _ => hH.2⟩ ?_
          rotate_left
          · (intro wx hx; go_simp <;> with_reducible rfl)
          try simp only [Act.put, pA9, pZ9, pS9]
          refine wpAnyT_stay 3 (v := ?_) rfl (by kernel_rfl) (fun _ _ _ h => h) (Or.inl ⟨by rfl, ?_⟩) ⟨hH.1, fun _ => hH.2⟩ ?_
          rotate_left
          · (intro wx hx; go_simp <;> with_reducible rfl)
          try simp only [Act.put, pA9, pZ9, pS9]
          refine wpAnyT_stay 4 (v := ?_) rfl (by kernel_rfl) (fun _ _ _ h => h) (Or.inl ⟨by rfl, ?_⟩) ⟨hH.1, fun _ => hH.2⟩ ?_
          rotate_left
          · (intro wx hx; go_simp <;> with_reducible rfl)
          try simp only [Act.put, pA9, pZ9, pS9]
          refine wpAnyT_stay 5 (v := ?_) rfl (by kernel_rfl) (fun _ _ _ h => h) (Or.inl ⟨by rfl, ?_⟩) ⟨hH.1, fun _ => hH.2⟩ ?_
          rotate_left
          · (intro wx hx; go_simp <;> with_reducible rfl)
          try simp only [Act.put, pA9, pZ9, pS9]
          refine wpAnyT_stay 6 (v := ?_) rfl (by kernel_rfl) (fun _ _ _ h => h) (Or.inl ⟨by rfl, ?_⟩) ⟨hH.1, fun _ => hH.2⟩ ?_
          rotate_left
          · (intro wx hx; go_simp <;> with_reducible rfl)
          try simp only [Act.put, pA9, pZ9, pS9]
          refine wpAnyT_stay 7 rfl (by kernel_rfl) (fun _ _ _ h => h) (yields_load_at rfl 48 (.tmp 36) rfl (ad.add (k * 16)) ks.toList _ rfl (fun w' hw' j' v hv => (Below.cell hw' (p := (ad.add (k * 16)).add j') (by rw [block_of_add, block_of_add]; exact HAD.out)).trans (HC1.out j' v hv)) Tryz.underlying48 rfl (by rw [Array.length_toList, HKS.out]; exact Tryz.szCm)) ⟨hH.1, fun _ => hH.2⟩ ?_
          try simp only [Act.put, pA9, pZ9, pS9]
          refine wpAnyT_three 8 13 14 rfl rfl rfl (by kernel_rfl) (fun K hQ => ?_) (fun K hQ => ?_) (fun K hQ => ?_)
          · rw [if_pos (by rfl)]
            go_simp
            (go_at_call 9; refine (HAP.out x0 BX0.out [] (fun q hq => by cases hq)).mono ?_; rintro e x1 ⟨m', A', c', rfl, hin, hx', hb, hoff⟩)
            have BX1 := Lh (BX0.out.trans (hb.mono BX0.out.size))
            have HAI := Lh (show ApI wr ([] ++ GG) m' x1 from ⟨BX1.out, hin, hoff⟩)
            have HX' := Lh hx'
            obtain ⟨mcs, emcs⟩ : ∃ mcs, m'.cs = mcs := ⟨_, rfl⟩
            have HMC := Lh emcs
            have HMZ := Lh (show mcs.size = 14 from by rw [← emcs]; rfl)
            have HMO := Lh (show mcs.toList.all (·.oneCell') = true from by rw [← emcs]; rfl)
            rw [emcs]
            obtain ⟨rr, err⟩ : ∃ rr, rcs (applyM plF m.x (k + 1) cm.x).2 A' c' = rr := ⟨_, rfl⟩
            have HRR := Lh err
            have HRZ := Lh (show rr.size = 4 from by rw [← err]; rfl)
            have HRO := Lh (show rr.toList.all (·.oneCell') = true from by rw [← err]; rfl)
            rw [err]
            clear hb hin hoff hx' emcs err
            refine hQ.out _ _ ?_ (fun hH1 => ?_)
            · exact ⟨BX1.out, trivial⟩
            clear hQ K
            try simp only [Act.put, pA9, pZ9, pS9]
            refine wpAnyT_stay 9 (v := ?_) rfl (by kernel_rfl) (fun _ _ _ h => h) (Or.inl ⟨by rfl, ?_⟩) ⟨hH1.1, fun _ => hH1.2⟩ ?_
            rotate_left
            · (intro wx hx; go_simp <;> with_reducible rfl)
            try simp only [Act.put, pA9, pZ9, pS9]
            refine wpAnyT_stay 10 (v := ?_) rfl (by kernel_rfl) (fun _ _ _ h => h) (Or.inl ⟨by rfl, ?_⟩) ⟨hH1.1, fun _ => hH1.2⟩ ?_
            rotate_left
            · (intro wx hx; go_simp <;> with_reducible rfl)
            try simp only [Act.put, pA9, pZ9, pS9]
            refine wpAnyT_stay 11 (v := ?_) rfl (by kernel_rfl) (fun _ _ _ h => h) (Or.inl ⟨by rfl, ?_⟩) ⟨hH1.1, fun _ => hH1.2⟩ ?_
            rotate_left
            · (intro wx hx; go_simp <;> with_reducible rfl)
            try simp only [Act.put, pA9, pZ9, pS9]
            refine wpAnyT_stay 12 (v := ?_) rfl (by kernel_rfl) (fun _ _ _ h => h) (Or.inl ⟨by rfl, ?_⟩) ⟨hH1.1, fun _ => hH1.2⟩ ?_
            rotate_left
            · (intro wx hx; go_simp <;> with_reducible rfl)
            try simp only [Act.put, pA9, pZ9, pS9]
            refine wpAnyT_two 13 14 rfl rfl (by kernel_rfl) (fun K hQ => ?_) (fun K hQ => ?_)
            · rw [if_pos (by rfl)]
              go_simp
              obtain ⟨x2, ew⟩ : ∃ w6, x1.alloc (.cells mZ 34) = w6 := ⟨_, rfl⟩
              have hb : Below x1.heap.size x1 (x1.alloc (.cells mZ 34)) := (Below.refl _ _).alloc (Nat.le_refl _) _
              have hg := Blk.new x1 34 mZ
              rw [ew] at hb hg
              have ew' : x1.alloc (.cells #[.int .i64 0, .int .i64 0, .int .i64 0, .int .u64 0, .slice none 0 0, .int .u64 0, .slice none 0 0, .slice none 0 0, .slice none 0 0, .slice none 0 0, .slice none 0 0, .slice none 0 0, .slice none 0 0, .int .u64 0] 34) = x2 := ew
              rw [ew']
              obtain ⟨b7, eb⟩ : ∃ b, x1.heap.size = b := ⟨_, rfl⟩
              have H7G := Lh (show wr.heap.size ≤ b7 from by rw [← eb]; exact BX1.out.size)
              have HAI := Lh (HAI.out.alloc hb (Nat.le_of_eq eb))
              have BX2 := Lh (BX1.out.trans (hb.mono BX1.out.size))
              rw [eb] at hg ⊢
              have HP7 := Lh hg
              clear hb hg ew ew' eb
              refine hQ.out _ _ ?_ (fun hH2 => ?_)
              · exact ⟨BX2.out, trivial⟩
              clear hQ K
              try simp only [Act.put, pA9, pZ9, pS9]
              refine wpAnyT_one 14 rfl (by kernel_rfl) (fun K hQ => ?_)
              rw [if_pos (by rfl)]
              go_simp
              obtain ⟨x3, ew⟩ : ∃ w6, x2.alloc (.cells rZ 39) = w6 := ⟨_, rfl⟩
              have hb : Below x2.heap.size x2 (x2.alloc (.cells rZ 39)) := (Below.refl _ _).alloc (Nat.le_refl _) _
              have hg := Blk.new x2 39 rZ
              rw [ew] at hb hg
              have ew' : x2.alloc (.cells #[.int .i64 0, .int .u64 0, .slice none 0 0, .int .u64 0] 39) = x3 := ew
              rw [ew']
              obtain ⟨b8, eb⟩ : ∃ b, x2.heap.size = b := ⟨_, rfl⟩
              have H8G := Lh (show wr.heap.size ≤ b8 from by rw [← eb]; exact BX2.out.size)
              have HNE := Lh (show b7 < b8 from by rw [← eb]; exact HP7.out.lt)
              have HAI := Lh (HAI.out.alloc hb (Nat.le_of_eq eb))
              have BX3 := Lh (BX2.out.trans (hb.mono BX2.out.size))
              have HP7 := Lh (HP7.out.below hb HP7.out.lt)
              rw [eb] at hg ⊢
              have HP8 := Lh hg
              clear hb hg ew ew' eb
              refine hQ.out _ _ ?_ (fun hH3 => ?_)
              · exact ⟨BX3.out, trivial⟩
              clear hQ K
              try simp only [Act.put, pA9, pZ9, pS9]
              refine wpAnyT_one 15 rfl (by kernel_rfl) (fun K hQ => ?_)
              refine step_store_blk rfl 34 (.tmp 7) (.tmp 39) rfl b7 34 mZ mcs rfl rfl HP7.out (by rw [HMZ.out]; rfl) (by rw [HMZ.out]; exact Tryz.szSt) HMO.out ?_
              intro x4 hB4 hO4
              have BX4 := Lh (BX3.out.trans (hO4.out.below H7G.out))
              refine hQ.out _ _ ?_ (fun hH315 => ?_)
              · exact ⟨BX4.out, trivial⟩
              clear hQ K
              try simp only [Act.put, pA9, pZ9, pS9]
              refine wpAnyT_last 16 rfl (by kernel_rfl) (by decide) (fun K hQ => ?_)
              refine step_store_blk rfl 39 (.tmp 8) (.tmp 40) rfl b8 39 rZ rr rfl rfl (hO4.out.blk HP8.out (by have := HNE.out; omega)) (by rw [HRZ.out]; rfl) (by rw [HRZ.out]; exact Tryz.szR) HRO.out ?_
              intro x5 hB5 hO5
              have BX5 := Lh (BX4.out.trans (hO5.out.below H8G.out))
              refine hQ.out _ _ ?_ (fun hH316 => ?_)
              · exact BX5.out
              clear hQ K
              try simp only [Act.put, pA9, pZ9, pS9]
              refine wpAnyT_stay 17 (v := ?_) rfl (by kernel_rfl) (fun _ _ _ h => h) (Or.inl ⟨by rfl, ?_⟩) ⟨hH316, fun h => absurd h (by decide)⟩ ?_
              rotate_left
              · (intro wx hx; go_simp <;> with_reducible rfl)
              try simp only [Act.put, pA9, pZ9, pS9]
              refine wpAnyT_done (by kernel_rfl) ?_ _
              go_wp2_with fail
              go_meet
              case rel => exact ⟨b7, b8, m', rr, rfl, rfl, rfl, Lh (ApS.mk' ((HAI.out.store hO4.out (by simp) H7G.out).store hO5.out (by simp) H8G.out) (fun q hq => by simp [hq]) (by simp) (by simp) ⟨A', c', HRR.out.symm⟩ HX'.out (by rw [HMC.out]; exact hO5.out.blk hB4.out (by have := HNE.out; omega)) hB5.out H7G.out H8G.out)⟩
            · rw [if_pos (by rfl)]
              go_simp
              obtain ⟨x2, ew⟩ : ∃ w6, x1.alloc (.cells rZ 39) = w6 := ⟨_, rfl⟩
              have hb : Below x1.heap.size x1 (x1.alloc (.cells rZ 39)) := (Below.refl _ _).alloc (Nat.le_refl _) _
              have hg := Blk.new x1 39 rZ
              rw [ew] at hb hg
              have ew' : x1.alloc (.cells #[.int .i64 0, .int .u64 0, .slice none 0 0, .int .u64 0] 39) = x2 := ew
              rw [ew']
              obtain ⟨b8, eb⟩ : ∃ b, x1.heap.size = b := ⟨_, rfl⟩
              have H8G := Lh (show wr.heap.size ≤ b8 from by rw [← eb]; exact BX1.out.size)
              have HAI := Lh (HAI.out.alloc hb (Nat.le_of_eq eb))
              have BX2 := Lh (BX1.out.trans (hb.mono BX1.out.size))
              rw [eb] at hg ⊢
              have HP8 := Lh hg
              clear hb hg ew ew' eb
              refine hQ.out _ _ ?_ (fun hH2 => ?_)
              · exact ⟨BX2.out, trivial⟩
              clear hQ K
              try simp only [Act.put, pA9, pZ9, pS9]
              refine wpAnyT_one 13 rfl (by kernel_rfl) (fun K hQ => ?_)
              rw [if_pos (by rfl)]
              go_simp
              obtain ⟨x3, ew⟩ : ∃ w6, x2.alloc (.cells mZ 34) = w6 := ⟨_, rfl⟩
              have hb : Below x2.heap.size x2 (x2.alloc (.cells mZ 34)) := (Below.refl _ _).alloc (Nat.le_refl _) _
              have hg := Blk.new x2 34 mZ
              rw [ew] at hb hg
              have ew' : x2.alloc (.cells #[.int .i64 0, .int .i64 0, .int .i64 0, .int .u64 0, .slice none 0 0, .int .u64 0, .slice none 0 0, .slice none 0 0, .slice none 0 0, .slice none 0 0, .slice none 0 0, .slice none 0 0, .slice none 0 0, .int .u64 0] 34) = x3 := ew
              rw [ew']
              obtain ⟨b7, eb⟩ : ∃ b, x2.heap.size = b := ⟨_, rfl⟩
              have H7G := Lh (show wr.heap.size ≤ b7 from by rw [← eb]; exact BX2.out.size)
              have HNE := Lh (show b8 < b7 from by rw [← eb]; exact HP8.out.lt)
              have HAI := Lh (HAI.out.alloc hb (Nat.le_of_eq eb))
              have BX3 := Lh (BX2.out.trans (hb.mono BX2.out.size))
              have HP8 := Lh (HP8.out.below hb HP8.out.lt)
              rw [eb] at hg ⊢
              have HP7 := Lh hg
              clear hb hg ew ew' eb
              refine hQ.out _ _ ?_ (fun hH3 => ?_)
              · exact ⟨BX3.out, trivial⟩
              clear hQ K
              try simp only [Act.put, pA9, pZ9, pS9]
              refine wpAnyT_one 15 rfl (by kernel_rfl) (fun K hQ => ?_)
              refine step_store_blk rfl 34 (.tmp 7) (.tmp 39) rfl b7 34 mZ mcs rfl rfl HP7.out (by rw [HMZ.out]; rfl) (by rw [HMZ.out]; exact Tryz.szSt) HMO.out ?_
              intro x4 hB4 hO4
              have BX4 := Lh (BX3.out.trans (hO4.out.below H7G.out))
              refine hQ.out _ _ ?_ (fun hH315 => ?_)
              · exact ⟨BX4.out, trivial⟩
              clear hQ K
              try simp only [Act.put, pA9, pZ9, pS9]
              refine wpAnyT_last 16 rfl (by kernel_rfl) (by decide) (fun K hQ => ?_)
              refine step_store_blk rfl 39 (.tmp 8) (.tmp 40) rfl b8 39 rZ rr rfl rfl (hO4.out.blk HP8.out (by have := HNE.out; omega)) (by rw [HRZ.out]; rfl) (by rw [HRZ.out]; exact Tryz.szR) HRO.out ?_
              intro x5 hB5 hO5
              have BX5 := Lh (BX4.out.trans (hO5.out.below H8G.out))
              refine hQ.out _ _ ?_ (fun hH316 => ?_)
              · exact BX5.out
              clear hQ K
              try simp only [Act.put, pA9, pZ9, pS9]
              refine wpAnyT_stay 17 (v := ?_) rfl (by kernel_rfl) (fun _ _ _ h => h) (Or.inl ⟨by rfl, ?_⟩) ⟨hH316, fun h => absurd h (by decide)⟩ ?_
              rotate_left
              · (intro wx hx; go_simp <;> with_reducible rfl)
              try simp only [Act.put, pA9, pZ9, pS9]
              refine wpAnyT_done (by kernel_rfl) ?_ _
              go_wp2_with fail
              go_meet
              case rel => exact ⟨b7, b8, m', rr, rfl, rfl, rfl, Lh (ApS.mk' ((HAI.out.store hO4.out (by simp) H7G.out).store hO5.out (by simp) H8G.out) (fun q hq => by simp [hq]) (by simp) (by simp) ⟨A', c', HRR.out.symm⟩ HX'.out (by rw [HMC.out]; exact hO5.out.blk hB4.out (by have := HNE.out; omega)) hB5.out H7G.out H8G.out)⟩
          · rw [if_pos (by rfl)]
            go_simp
            obtain ⟨x1, ew⟩ : ∃ w6, x0.alloc (.cells mZ 34) = w6 := ⟨_, rfl⟩
            have hb : Below x0.heap.size x0 (x0.alloc (.cells mZ 34)) := (Below.refl _ _).alloc (Nat.le_refl _) _
            have hg := Blk.new x0 34 mZ
            rw [ew] at hb hg
            have ew' : x0.alloc (.cells #[.int .i64 0, .int .i64 0, .int .i64 0, .int .u64 0, .slice none 0 0, .int .u64 0, .slice none 0 0, .slice none 0 0, .slice none 0 0, .slice none 0 0, .slice none 0 0, .slice none 0 0, .slice none 0 0, .int .u64 0] 34) = x1 := ew
            rw [ew']
            obtain ⟨b7, eb⟩ : ∃ b, x0.heap.size = b := ⟨_, rfl⟩
            have H7G := Lh (show wr.heap.size ≤ b7 from by rw [← eb]; exact BX0.out.size)
            have BX1 := Lh (BX0.out.trans (hb.mono BX0.out.size))
            rw [eb] at hg ⊢
            have HP7 := Lh hg
            clear hb hg ew ew' eb
            refine hQ.out _ _ ?_ (fun hH1 => ?_)
            · exact ⟨BX1.out, trivial⟩
            clear hQ K
            try simp only [Act.put, pA9, pZ9, pS9]
            refine wpAnyT_two 8 14 rfl rfl (by kernel_rfl) (fun K hQ => ?_) (fun K hQ => ?_)
            · rw [if_pos (by rfl)]
              go_simp
              (go_at_call 9; refine (HAP.out x1 BX1.out [b7] (fun q hq => by simp only [List.mem_cons, List.not_mem_nil, or_false] at hq; rcases hq with rfl <;> exact ⟨H7G.out, HP7.out.lt⟩)).mono ?_; rintro e x2 ⟨m', A', c', rfl, hin, hx', hb, hoff⟩)
              have BX2 := Lh (BX1.out.trans (hb.mono BX1.out.size))
              have HP7 := Lh (HP7.out.below hb HP7.out.lt)
              have HAI := Lh (show ApI wr ([b7] ++ GG) m' x2 from ⟨BX2.out, hin, hoff⟩)
              have HX' := Lh hx'
              obtain ⟨mcs, emcs⟩ : ∃ mcs, m'.cs = mcs := ⟨_, rfl⟩
              have HMC := Lh emcs
              have HMZ := Lh (show mcs.size = 14 from by rw [← emcs]; rfl)
              have HMO := Lh (show mcs.toList.all (·.oneCell') = true from by rw [← emcs]; rfl)
              rw [emcs]
              obtain ⟨rr, err⟩ : ∃ rr, rcs (applyM plF m.x (k + 1) cm.x).2 A' c' = rr := ⟨_, rfl⟩
              have HRR := Lh err
              have HRZ := Lh (show rr.size = 4 from by rw [← err]; rfl)
              have HRO := Lh (show rr.toList.all (·.oneCell') = true from by rw [← err]; rfl)
              rw [err]
              clear hb hin hoff hx' emcs err
              refine hQ.out _ _ ?_ (fun hH2 => ?_)
              · exact ⟨BX2.out, trivial⟩
              clear hQ K
              try simp only [Act.put, pA9, pZ9, pS9]
              refine wpAnyT_stay 9 (v := ?_) rfl (by kernel_rfl) (fun _ _ _ h => h) (Or.inl ⟨by rfl, ?_⟩) ⟨hH2.1, fun _ => hH2.2⟩ ?_
              rotate_left
              · (intro wx hx; go_simp <;> with_reducible rfl)
              try simp only [Act.put, pA9, pZ9, pS9]
              refine wpAnyT_stay 10 (v := ?_) rfl (by kernel_rfl) (fun _ _ _ h => h) (Or.inl ⟨by rfl, ?_⟩) ⟨hH2.1, fun _ => hH2.2⟩ ?_
              rotate_left
              · (intro wx hx; go_simp <;> with_reducible rfl)
              try simp only [Act.put, pA9, pZ9, pS9]
              refine wpAnyT_stay 11 (v := ?_) rfl (by kernel_rfl) (fun _ _ _ h => h) (Or.inl ⟨by rfl, ?_⟩) ⟨hH2.1, fun _ => hH2.2⟩ ?_
              rotate_left
              · (intro wx hx; go_simp <;> with_reducible rfl)
              try simp only [Act.put, pA9, pZ9, pS9]
              refine wpAnyT_stay 12 (v := ?_) rfl (by kernel_rfl) (fun _ _ _ h => h) (Or.inl ⟨by rfl, ?_⟩) ⟨hH2.1, fun _ => hH2.2⟩ ?_
              rotate_left
              · (intro wx hx; go_simp <;> with_reducible rfl)
              try simp only [Act.put, pA9, pZ9, pS9]
              refine wpAnyT_one 14 rfl (by kernel_rfl) (fun K hQ => ?_)
              rw [if_pos (by rfl)]
              go_simp
              obtain ⟨x3, ew⟩ : ∃ w6, x2.alloc (.cells rZ 39) = w6 := ⟨_, rfl⟩
              have hb : Below x2.heap.size x2 (x2.alloc (.cells rZ 39)) := (Below.refl _ _).alloc (Nat.le_refl _) _
              have hg := Blk.new x2 39 rZ
              rw [ew] at hb hg
              have ew' : x2.alloc (.cells #[.int .i64 0, .int .u64 0, .slice none 0 0, .int .u64 0] 39) = x3 := ew
              rw [ew']
              obtain ⟨b8, eb⟩ : ∃ b, x2.heap.size = b := ⟨_, rfl⟩
              have H8G := Lh (show wr.heap.size ≤ b8 from by rw [← eb]; exact BX2.out.size)
              have HNE := Lh (show b7 < b8 from by rw [← eb]; exact HP7.out.lt)
              have HAI := Lh (HAI.out.alloc hb (Nat.le_of_eq eb))
              have BX3 := Lh (BX2.out.trans (hb.mono BX2.out.size))
              have HP7 := Lh (HP7.out.below hb HP7.out.lt)
              rw [eb] at hg ⊢
              have HP8 := Lh hg
              clear hb hg ew ew' eb
              refine hQ.out _ _ ?_ (fun hH3 => ?_)
              · exact ⟨BX3.out, trivial⟩
              clear hQ K
              try simp only [Act.put, pA9, pZ9, pS9]
              refine wpAnyT_one 15 rfl (by kernel_rfl) (fun K hQ => ?_)
              refine step_store_blk rfl 34 (.tmp 7) (.tmp 39) rfl b7 34 mZ mcs rfl rfl HP7.out (by rw [HMZ.out]; rfl) (by rw [HMZ.out]; exact Tryz.szSt) HMO.out ?_
              intro x4 hB4 hO4
              have BX4 := Lh (BX3.out.trans (hO4.out.below H7G.out))
              refine hQ.out _ _ ?_ (fun hH315 => ?_)
              · exact ⟨BX4.out, trivial⟩
              clear hQ K
              try simp only [Act.put, pA9, pZ9, pS9]
              refine wpAnyT_last 16 rfl (by kernel_rfl) (by decide) (fun K hQ => ?_)
              refine step_store_blk rfl 39 (.tmp 8) (.tmp 40) rfl b8 39 rZ rr rfl rfl (hO4.out.blk HP8.out (by have := HNE.out; omega)) (by rw [HRZ.out]; rfl) (by rw [HRZ.out]; exact Tryz.szR) HRO.out ?_
              intro x5 hB5 hO5
              have BX5 := Lh (BX4.out.trans (hO5.out.below H8G.out))
              refine hQ.out _ _ ?_ (fun hH316 => ?_)
              · exact BX5.out
              clear hQ K
              try simp only [Act.put, pA9, pZ9, pS9]
              refine wpAnyT_stay 17 (v := ?_) rfl (by kernel_rfl) (fun _ _ _ h => h) (Or.inl ⟨by rfl, ?_⟩) ⟨hH316, fun h => absurd h (by decide)⟩ ?_
              rotate_left
              · (intro wx hx; go_simp <;> with_reducible rfl)
              try simp only [Act.put, pA9, pZ9, pS9]
              refine wpAnyT_done (by kernel_rfl) ?_ _
              go_wp2_with fail
              go_meet
              case rel => exact ⟨b7, b8, m', rr, rfl, rfl, rfl, Lh (ApS.mk' ((HAI.out.store hO4.out (by simp) H7G.out).store hO5.out (by simp) H8G.out) (fun q hq => by simp [hq]) (by simp) (by simp) ⟨A', c', HRR.out.symm⟩ HX'.out (by rw [HMC.out]; exact hO5.out.blk hB4.out (by have := HNE.out; omega)) hB5.out H7G.out H8G.out)⟩
            · rw [if_pos (by rfl)]
              go_simp
              obtain ⟨x2, ew⟩ : ∃ w6, x1.alloc (.cells rZ 39) = w6 := ⟨_, rfl⟩
              have hb : Below x1.heap.size x1 (x1.alloc (.cells rZ 39)) := (Below.refl _ _).alloc (Nat.le_refl _) _
              have hg := Blk.new x1 39 rZ
              rw [ew] at hb hg
              have ew' : x1.alloc (.cells #[.int .i64 0, .int .u64 0, .slice none 0 0, .int .u64 0] 39) = x2 := ew
              rw [ew']
              obtain ⟨b8, eb⟩ : ∃ b, x1.heap.size = b := ⟨_, rfl⟩
              have H8G := Lh (show wr.heap.size ≤ b8 from by rw [← eb]; exact BX1.out.size)
              have HNE := Lh (show b7 < b8 from by rw [← eb]; exact HP7.out.lt)
              have BX2 := Lh (BX1.out.trans (hb.mono BX1.out.size))
              have HP7 := Lh (HP7.out.below hb HP7.out.lt)
              rw [eb] at hg ⊢
              have HP8 := Lh hg
              clear hb hg ew ew' eb
              refine hQ.out _ _ ?_ (fun hH2 => ?_)
              · exact ⟨BX2.out, trivial⟩
              clear hQ K
              try simp only [Act.put, pA9, pZ9, pS9]
              refine wpAnyT_one 8 rfl (by kernel_rfl) (fun K hQ => ?_)
              rw [if_pos (by rfl)]
              go_simp
              (go_at_call 9; refine (HAP.out x2 BX2.out [b8, b7] (fun q hq => by simp only [List.mem_cons, List.not_mem_nil, or_false] at hq; rcases hq with rfl | rfl <;> first | exact ⟨H8G.out, HP8.out.lt⟩ | exact ⟨H7G.out, HP7.out.lt⟩)).mono ?_; rintro e x3 ⟨m', A', c', rfl, hin, hx', hb, hoff⟩)
              have BX3 := Lh (BX2.out.trans (hb.mono BX2.out.size))
              have HP7 := Lh (HP7.out.below hb HP7.out.lt)
              have HP8 := Lh (HP8.out.below hb HP8.out.lt)
              have HAI := Lh (show ApI wr ([b8, b7] ++ GG) m' x3 from ⟨BX3.out, hin, hoff⟩)
              have HX' := Lh hx'
              obtain ⟨mcs, emcs⟩ : ∃ mcs, m'.cs = mcs := ⟨_, rfl⟩
              have HMC := Lh emcs
              have HMZ := Lh (show mcs.size = 14 from by rw [← emcs]; rfl)
              have HMO := Lh (show mcs.toList.all (·.oneCell') = true from by rw [← emcs]; rfl)
              rw [emcs]
              obtain ⟨rr, err⟩ : ∃ rr, rcs (applyM plF m.x (k + 1) cm.x).2 A' c' = rr := ⟨_, rfl⟩
              have HRR := Lh err
              have HRZ := Lh (show rr.size = 4 from by rw [← err]; rfl)
              have HRO := Lh (show rr.toList.all (·.oneCell') = true from by rw [← err]; rfl)
              rw [err]
              clear hb hin hoff hx' emcs err
              refine hQ.out _ _ ?_ (fun hH3 => ?_)
              · exact ⟨BX3.out, trivial⟩
              clear hQ K
              try simp only [Act.put, pA9, pZ9, pS9]
              refine wpAnyT_stay 9 (v := ?_) rfl (by kernel_rfl) (fun _ _ _ h => h) (Or.inl ⟨by rfl, ?_⟩) ⟨hH3.1, fun _ => hH3.2⟩ ?_
              rotate_left
              · (intro wx hx; go_simp <;> with_reducible rfl)
              try simp only [Act.put, pA9, pZ9, pS9]
              refine wpAnyT_stay 10 (v := ?_) rfl (by kernel_rfl) (fun _ _ _ h => h) (Or.inl ⟨by rfl, ?_⟩) ⟨hH3.1, fun _ => hH3.2⟩ ?_
              rotate_left
              · (intro wx hx; go_simp <;> with_reducible rfl)
              try simp only [Act.put, pA9, pZ9, pS9]
              refine wpAnyT_stay 11 (v := ?_) rfl (by kernel_rfl) (fun _ _ _ h => h) (Or.inl ⟨by rfl, ?_⟩) ⟨hH3.1, fun _ => hH3.2⟩ ?_
              rotate_left
              · (intro wx hx; go_simp <;> with_reducible rfl)
              try simp only [Act.put, pA9, pZ9, pS9]
              refine wpAnyT_stay 12 (v := ?_) rfl (by kernel_rfl) (fun _ _ _ h => h) (Or.inl ⟨by rfl, ?_⟩) ⟨hH3.1, fun _ => hH3.2⟩ ?_
              rotate_left
              · (intro wx hx; go_simp <;> with_reducible rfl)
              try simp only [Act.put, pA9, pZ9, pS9]
              refine wpAnyT_one 15 rfl (by kernel_rfl) (fun K hQ => ?_)
              refine step_store_blk rfl 34 (.tmp 7) (.tmp 39) rfl b7 34 mZ mcs rfl rfl HP7.out (by rw [HMZ.out]; rfl) (by rw [HMZ.out]; exact Tryz.szSt) HMO.out ?_
              intro x4 hB4 hO4
              have BX4 := Lh (BX3.out.trans (hO4.out.below H7G.out))
              refine hQ.out _ _ ?_ (fun hH315 => ?_)
              · exact ⟨BX4.out, trivial⟩
              clear hQ K
              try simp only [Act.put, pA9, pZ9, pS9]
              refine wpAnyT_last 16 rfl (by kernel_rfl) (by decide) (fun K hQ => ?_)
              refine step_store_blk rfl 39 (.tmp 8) (.tmp 40) rfl b8 39 rZ rr rfl rfl (hO4.out.blk HP8.out (by have := HNE.out; omega)) (by rw [HRZ.out]; rfl) (by rw [HRZ.out]; exact Tryz.szR) HRO.out ?_
              intro x5 hB5 hO5
              have BX5 := Lh (BX4.out.trans (hO5.out.below H8G.out))
              refine hQ.out _ _ ?_ (fun hH316 => ?_)
              · exact BX5.out
              clear hQ K
              try simp only [Act.put, pA9, pZ9, pS9]
              refine wpAnyT_stay 17 (v := ?_) rfl (by kernel_rfl) (fun _ _ _ h => h) (Or.inl ⟨by rfl, ?_⟩) ⟨hH316, fun h => absurd h (by decide)⟩ ?_
              rotate_left
              · (intro wx hx; go_simp <;> with_reducible rfl)
              try simp only [Act.put, pA9, pZ9, pS9]
              refine wpAnyT_done (by kernel_rfl) ?_ _
              go_wp2_with fail
              go_meet
              case rel => exact ⟨b7, b8, m', rr, rfl, rfl, rfl, Lh (ApS.mk' ((HAI.out.store hO4.out (by simp) H7G.out).store hO5.out (by simp) H8G.out) (fun q hq => by simp [hq]) (by simp) (by simp) ⟨A', c', HRR.out.symm⟩ HX'.out (by rw [HMC.out]; exact hO5.out.blk hB4.out (by have := HNE.out; omega)) hB5.out H7G.out H8G.out)⟩
          · rw [if_pos (by rfl)]
            go_simp
            obtain ⟨x1, ew⟩ : ∃ w6, x0.alloc (.cells rZ 39) = w6 := ⟨_, rfl⟩
            have hb : Below x0.heap.size x0 (x0.alloc (.cells rZ 39)) := (Below.refl _ _).alloc (Nat.le_refl _) _
            have hg := Blk.new x0 39 rZ
            rw [ew] at hb hg
            have ew' : x0.alloc (.cells #[.int .i64 0, .int .u64 0, .slice none 0 0, .int .u64 0] 39) = x1 := ew
            rw [ew']
            obtain ⟨b8, eb⟩ : ∃ b, x0.heap.size = b := ⟨_, rfl⟩
            have H8G := Lh (show wr.heap.size ≤ b8 from by rw [← eb]; exact BX0.out.size)
            have BX1 := Lh (BX0.out.trans (hb.mono BX0.out.size))
            rw [eb] at hg ⊢
            have HP8 := Lh hg
            clear hb hg ew ew' eb
            refine hQ.out _ _ ?_ (fun hH1 => ?_)
            · exact ⟨BX1.out, trivial⟩
            clear hQ K
            try simp only [Act.put, pA9, pZ9, pS9]
            refine wpAnyT_two 8 13 rfl rfl (by kernel_rfl) (fun K hQ => ?_) (fun K hQ => ?_)
            · rw [if_pos (by rfl)]
              go_simp
              (go_at_call 9; refine (HAP.out x1 BX1.out [b8] (fun q hq => by simp only [List.mem_cons, List.not_mem_nil, or_false] at hq; rcases hq with rfl <;> exact ⟨H8G.out, HP8.out.lt⟩)).mono ?_; rintro e x2 ⟨m', A', c', rfl, hin, hx', hb, hoff⟩)
              have BX2 := Lh (BX1.out.trans (hb.mono BX1.out.size))
              have HP8 := Lh (HP8.out.below hb HP8.out.lt)
              have HAI := Lh (show ApI wr ([b8] ++ GG) m' x2 from ⟨BX2.out, hin, hoff⟩)
              have HX' := Lh hx'
              obtain ⟨mcs, emcs⟩ : ∃ mcs, m'.cs = mcs := ⟨_, rfl⟩
              have HMC := Lh emcs
              have HMZ := Lh (show mcs.size = 14 from by rw [← emcs]; rfl)
              have HMO := Lh (show mcs.toList.all (·.oneCell') = true from by rw [← emcs]; rfl)
              rw [emcs]
              obtain ⟨rr, err⟩ : ∃ rr, rcs (applyM plF m.x (k + 1) cm.x).2 A' c' = rr := ⟨_, rfl⟩
              have HRR := Lh err
              have HRZ := Lh (show rr.size = 4 from by rw [← err]; rfl)
              have HRO := Lh (show rr.toList.all (·.oneCell') = true from by rw [← err]; rfl)
              rw [err]
              clear hb hin hoff hx' emcs err
              refine hQ.out _ _ ?_ (fun hH2 => ?_)
              · exact ⟨BX2.out, trivial⟩
              clear hQ K
              try simp only [Act.put, pA9, pZ9, pS9]
              refine wpAnyT_stay 9 (v := ?_) rfl (by kernel_rfl) (fun _ _ _ h => h) (Or.inl ⟨by rfl, ?_⟩) ⟨hH2.1, fun _ => hH2.2⟩ ?_
              rotate_left
              · (intro wx hx; go_simp <;> with_reducible rfl)
              try simp only [Act.put, pA9, pZ9, pS9]
              refine wpAnyT_stay 10 (v := ?_) rfl (by kernel_rfl) (fun _ _ _ h => h) (Or.inl ⟨by rfl, ?_⟩) ⟨hH2.1, fun _ => hH2.2⟩ ?_
              rotate_left
              · (intro wx hx; go_simp <;> with_reducible rfl)
              try simp only [Act.put, pA9, pZ9, pS9]
              refine wpAnyT_stay 11 (v := ?_) rfl (by kernel_rfl) (fun _ _ _ h => h) (Or.inl ⟨by rfl, ?_⟩) ⟨hH2.1, fun _ => hH2.2⟩ ?_
              rotate_left
              · (intro wx hx; go_simp <;> with_reducible rfl)
              try simp only [Act.put, pA9, pZ9, pS9]
              refine wpAnyT_stay 12 (v := ?_) rfl (by kernel_rfl) (fun _ _ _ h => h) (Or.inl ⟨by rfl, ?_⟩) ⟨hH2.1, fun _ => hH2.2⟩ ?_
              rotate_left
              · (intro wx hx; go_simp <;> with_reducible rfl)
              try simp only [Act.put, pA9, pZ9, pS9]
              refine wpAnyT_one 13 rfl (by kernel_rfl) (fun K hQ => ?_)
              rw [if_pos (by rfl)]
              go_simp
              obtain ⟨x3, ew⟩ : ∃ w6, x2.alloc (.cells mZ 34) = w6 := ⟨_, rfl⟩
              have hb : Below x2.heap.size x2 (x2.alloc (.cells mZ 34)) := (Below.refl _ _).alloc (Nat.le_refl _) _
              have hg := Blk.new x2 34 mZ
              rw [ew] at hb hg
              have ew' : x2.alloc (.cells #[.int .i64 0, .int .i64 0, .int .i64 0, .int .u64 0, .slice none 0 0, .int .u64 0, .slice none 0 0, .slice none 0 0, .slice none 0 0, .slice none 0 0, .slice none 0 0, .slice none 0 0, .slice none 0 0, .int .u64 0] 34) = x3 := ew
              rw [ew']
              obtain ⟨b7, eb⟩ : ∃ b, x2.heap.size = b := ⟨_, rfl⟩
              have H7G := Lh (show wr.heap.size ≤ b7 from by rw [← eb]; exact BX2.out.size)
              have HNE := Lh (show b8 < b7 from by rw [← eb]; exact HP8.out.lt)
              have HAI := Lh (HAI.out.alloc hb (Nat.le_of_eq eb))
              have BX3 := Lh (BX2.out.trans (hb.mono BX2.out.size))
              have HP8 := Lh (HP8.out.below hb HP8.out.lt)
              rw [eb] at hg ⊢
              have HP7 := Lh hg
              clear hb hg ew ew' eb
              refine hQ.out _ _ ?_ (fun hH3 => ?_)
              · exact ⟨BX3.out, trivial⟩
              clear hQ K
              try simp only [Act.put, pA9, pZ9, pS9]
              refine wpAnyT_one 15 rfl (by kernel_rfl) (fun K hQ => ?_)
              refine step_store_blk rfl 34 (.tmp 7) (.tmp 39) rfl b7 34 mZ mcs rfl rfl HP7.out (by rw [HMZ.out]; rfl) (by rw [HMZ.out]; exact Tryz.szSt) HMO.out ?_
              intro x4 hB4 hO4
              have BX4 := Lh (BX3.out.trans (hO4.out.below H7G.out))
              refine hQ.out _ _ ?_ (fun hH315 => ?_)
              · exact ⟨BX4.out, trivial⟩
              clear hQ K
              try simp only [Act.put, pA9, pZ9, pS9]
              refine wpAnyT_last 16 rfl (by kernel_rfl) (by decide) (fun K hQ => ?_)
              refine step_store_blk rfl 39 (.tmp 8) (.tmp 40) rfl b8 39 rZ rr rfl rfl (hO4.out.blk HP8.out (by have := HNE.out; omega)) (by rw [HRZ.out]; rfl) (by rw [HRZ.out]; exact Tryz.szR) HRO.out ?_
              intro x5 hB5 hO5
              have BX5 := Lh (BX4.out.trans (hO5.out.below H8G.out))
              refine hQ.out _ _ ?_ (fun hH316 => ?_)
              · exact BX5.out
              clear hQ K
              try simp only [Act.put, pA9, pZ9, pS9]
              refine wpAnyT_stay 17 (v := ?_) rfl (by kernel_rfl) (fun _ _ _ h => h) (Or.inl ⟨by rfl, ?_⟩) ⟨hH316, fun h => absurd h (by decide)⟩ ?_
              rotate_left
              · (intro wx hx; go_simp <;> with_reducible rfl)
              try simp only [Act.put, pA9, pZ9, pS9]
              refine wpAnyT_done (by kernel_rfl) ?_ _
              go_wp2_with fail
              go_meet
              case rel => exact ⟨b7, b8, m', rr, rfl, rfl, rfl, Lh (ApS.mk' ((HAI.out.store hO4.out (by simp) H7G.out).store hO5.out (by simp) H8G.out) (fun q hq => by simp [hq]) (by simp) (by simp) ⟨A', c', HRR.out.symm⟩ HX'.out (by rw [HMC.out]; exact hO5.out.blk hB4.out (by have := HNE.out; omega)) hB5.out H7G.out H8G.out)⟩
            · rw [if_pos (by rfl)]
              go_simp
              obtain ⟨x2, ew⟩ : ∃ w6, x1.alloc (.cells mZ 34) = w6 := ⟨_, rfl⟩
              have hb : Below x1.heap.size x1 (x1.alloc (.cells mZ 34)) := (Below.refl _ _).alloc (Nat.le_refl _) _
              have hg := Blk.new x1 34 mZ
              rw [ew] at hb hg
              have ew' : x1.alloc (.cells #[.int .i64 0, .int .i64 0, .int .i64 0, .int .u64 0, .slice none 0 0, .int .u64 0, .slice none 0 0, .slice none 0 0, .slice none 0 0, .slice none 0 0, .slice none 0 0, .slice none 0 0, .slice none 0 0, .int .u64 0] 34) = x2 := ew
              rw [ew']
              obtain ⟨b7, eb⟩ : ∃ b, x1.heap.size = b := ⟨_, rfl⟩
              have H7G := Lh (show wr.heap.size ≤ b7 from by rw [← eb]; exact BX1.out.size)
              have HNE := Lh (show b8 < b7 from by rw [← eb]; exact HP8.out.lt)
              have BX2 := Lh (BX1.out.trans (hb.mono BX1.out.size))
              have HP8 := Lh (HP8.out.below hb HP8.out.lt)
              rw [eb] at hg ⊢
              have HP7 := Lh hg
              clear hb hg ew ew' eb
              refine hQ.out _ _ ?_ (fun hH2 => ?_)
              · exact ⟨BX2.out, trivial⟩
              clear hQ K
              try simp only [Act.put, pA9, pZ9, pS9]
              refine wpAnyT_one 8 rfl (by kernel_rfl) (fun K hQ => ?_)
              rw [if_pos (by rfl)]
              go_simp
              (go_at_call 9; refine (HAP.out x2 BX2.out [b7, b8] (fun q hq => by simp only [List.mem_cons, List.not_mem_nil, or_false] at hq; rcases hq with rfl | rfl <;> first | exact ⟨H7G.out, HP7.out.lt⟩ | exact ⟨H8G.out, HP8.out.lt⟩)).mono ?_; rintro e x3 ⟨m', A', c', rfl, hin, hx', hb, hoff⟩)
              have BX3 := Lh (BX2.out.trans (hb.mono BX2.out.size))
              have HP8 := Lh (HP8.out.below hb HP8.out.lt)
              have HP7 := Lh (HP7.out.below hb HP7.out.lt)
              have HAI := Lh (show ApI wr ([b7, b8] ++ GG) m' x3 from ⟨BX3.out, hin, hoff⟩)
              have HX' := Lh hx'
              obtain ⟨mcs, emcs⟩ : ∃ mcs, m'.cs = mcs := ⟨_, rfl⟩
              have HMC := Lh emcs
              have HMZ := Lh (show mcs.size = 14 from by rw [← emcs]; rfl)
              have HMO := Lh (show mcs.toList.all (·.oneCell') = true from by rw [← emcs]; rfl)
              rw [emcs]
              obtain ⟨rr, err⟩ : ∃ rr, rcs (applyM plF m.x (k + 1) cm.x).2 A' c' = rr := ⟨_, rfl⟩
              have HRR := Lh err
              have HRZ := Lh (show rr.size = 4 from by rw [← err]; rfl)
              have HRO := Lh (show rr.toList.all (·.oneCell') = true from by rw [← err]; rfl)
              rw [err]
              clear hb hin hoff hx' emcs err
              refine hQ.out _ _ ?_ (fun hH3 => ?_)
              · exact ⟨BX3.out, trivial⟩
              clear hQ K
              try simp only [Act.put, pA9, pZ9, pS9]
              refine wpAnyT_stay 9 (v := ?_) rfl (by kernel_rfl) (fun _ _ _ h => h) (Or.inl ⟨by rfl, ?_⟩) ⟨hH3.1, fun _ => hH3.2⟩ ?_
              rotate_left
              · (intro wx hx; go_simp <;> with_reducible rfl)
              try simp only [Act.put, pA9, pZ9, pS9]
              refine wpAnyT_stay 10 (v := ?_) rfl (by kernel_rfl) (fun _ _ _ h => h) (Or.inl ⟨by rfl, ?_⟩) ⟨hH3.1, fun _ => hH3.2⟩ ?_
              rotate_left
              · (intro wx hx; go_simp <;> with_reducible rfl)
              try simp only [Act.put, pA9, pZ9, pS9]
              refine wpAnyT_stay 11 (v := ?_) rfl (by kernel_rfl) (fun _ _ _ h => h) (Or.inl ⟨by rfl, ?_⟩) ⟨hH3.1, fun _ => hH3.2⟩ ?_
              rotate_left
              · (intro wx hx; go_simp <;> with_reducible rfl)
              try simp only [Act.put, pA9, pZ9, pS9]
              refine wpAnyT_stay 12 (v := ?_) rfl (by kernel_rfl) (fun _ _ _ h => h) (Or.inl ⟨by rfl, ?_⟩) ⟨hH3.1, fun _ => hH3.2⟩ ?_
              rotate_left
              · (intro wx hx; go_simp <;> with_reducible rfl)
              try simp only [Act.put, pA9, pZ9, pS9]
              refine wpAnyT_one 15 rfl (by kernel_rfl) (fun K hQ => ?_)
              refine step_store_blk rfl 34 (.tmp 7) (.tmp 39) rfl b7 34 mZ mcs rfl rfl HP7.out (by rw [HMZ.out]; rfl) (by rw [HMZ.out]; exact Tryz.szSt) HMO.out ?_
              intro x4 hB4 hO4
              have BX4 := Lh (BX3.out.trans (hO4.out.below H7G.out))
              refine hQ.out _ _ ?_ (fun hH315 => ?_)
              · exact ⟨BX4.out, trivial⟩
              clear hQ K
              try simp only [Act.put, pA9, pZ9, pS9]
              refine wpAnyT_last 16 rfl (by kernel_rfl) (by decide) (fun K hQ => ?_)
              refine step_store_blk rfl 39 (.tmp 8) (.tmp 40) rfl b8 39 rZ rr rfl rfl (hO4.out.blk HP8.out (by have := HNE.out; omega)) (by rw [HRZ.out]; rfl) (by rw [HRZ.out]; exact Tryz.szR) HRO.out ?_
              intro x5 hB5 hO5
              have BX5 := Lh (BX4.out.trans (hO5.out.below H8G.out))
              refine hQ.out _ _ ?_ (fun hH316 => ?_)
              · exact BX5.out
              clear hQ K
              try simp only [Act.put, pA9, pZ9, pS9]
              refine wpAnyT_stay 17 (v := ?_) rfl (by kernel_rfl) (fun _ _ _ h => h) (Or.inl ⟨by rfl, ?_⟩) ⟨hH316, fun h => absurd h (by decide)⟩ ?_
              rotate_left
              · (intro wx hx; go_simp <;> with_reducible rfl)
              try simp only [Act.put, pA9, pZ9, pS9]
              refine wpAnyT_done (by kernel_rfl) ?_ _
              go_wp2_with fail
              go_meet
              case rel => exact ⟨b7, b8, m', rr, rfl, rfl, rfl, Lh (ApS.mk' ((HAI.out.store hO4.out (by simp) H7G.out).store hO5.out (by simp) H8G.out) (fun q hq => by simp [hq]) (by simp) (by simp) ⟨A', c', HRR.out.symm⟩ HX'.out (by rw [HMC.out]; exact hO5.out.blk hB4.out (by have := HNE.out; omega)) hB5.out H7G.out H8G.out)⟩
        case rest =>
          obtain ⟨bx, br, m', rr, rfl, rfl, rfl, HS⟩ := hcut
          obtain ⟨wp, hwp⟩ : ∃ wp, wp = wr := ⟨_, rfl⟩
          subst hwp
          obtain ⟨wk, hwk⟩ : ∃ wk, wk = wc := ⟨_, rfl⟩
          subst hwk
          have HLT := Lh (show m.x.last < k + 1 from by have := RW.out.run.last; omega)
          have HOV := Lh (apply_over RW.out.run.inv HLT.out cm.x)
          have HGK := Lh (fun v (hv : v ∈ U) => gone_keep RW.out.run.inv HLT.out (by omega) cm.x (HGO.out v hv))
          have HGN := Lh (gone_new RW.out.run.inv HLT.out cm.x)
          have HRN := Lh (RW.out.run.apply (by omega) cm.x)
          rw [← HS.out.eq] at HOV HGK HGN HRN
          obtain ⟨kd, ekd⟩ : ∃ x, cm.x.kind = x := ⟨_, rfl⟩
          obtain ⟨rc, erc⟩ : ∃ x, (applyM plF m.x (k + 1) cm.x).2.code = x := ⟨_, rfl⟩
          obtain ⟨cv, ecv⟩ : ∃ x, cm.x.version = x := ⟨_, rfl⟩
          have hr0 : rr[0]? = some (.int .i64 rc) := by obtain ⟨A, c, e⟩ := HS.out.res; rw [e, ← erc]; rfl
          have R0 := Lh hr0
          have HKC := Lh (show wp.cell? ((ad.add (k * 16)).add 0) = some (.int .i64 kd) from HC1.out 0 _ (by rw [← EKS.out, ← ekd]; rfl))
          have HKV := Lh (show wp.cell? ((ad.add (k * 16)).add 6) = some (.int .u64 (cv : Int)) from HC1.out 6 _ (by rw [← EKS.out, ← ecv]; rfl))
          have HCC := Lh (fun W (hW : Below wp.heap.size wp W) j v (h : wp.cell? ((ad.add (k * 16)).add j) = some v) => (hW.cell (p := (ad.add (k * 16)).add j) (by rw [block_of_add, block_of_add]; exact HAD.out)).trans h)
          have HOK := Lh (show kd ≠ 7 → m'.x.mep = m.x.mep from fun h => by rcases HOV.out with h1 | h1; exact h1; exact absurd (by rw [← ekd]; exact h1.kind) h)
          rw [ekd, ecv, erc] at HGN
          have HKD := Lh ekd
          clear ekd ecv erc hr0 HAP HC1
          obtain ⟨mcs, emcs⟩ : ∃ mcs, m'.cs = mcs := ⟨_, rfl⟩
          obtain ⟨mi, emi⟩ : ∃ x : Int, (m.x.mep : Int) = x := ⟨_, rfl⟩
          obtain ⟨ni, eni⟩ : ∃ x : Int, (m.x.nep : Int) = x := ⟨_, rfl⟩
          obtain ⟨mj, emj⟩ : ∃ x : Int, (m'.x.mep : Int) = x := ⟨_, rfl⟩
          obtain ⟨no', eno⟩ : ∃ x, m'.x.objs.length = x := ⟨_, rfl⟩
          obtain ⟨ni', eni'⟩ : ∃ x, m'.x.ints.length = x := ⟨_, rfl⟩
          have hno' : no' ≤ 16777216 := by rw [← eno]; exact HS.out.in_.inn.wf.ol
          have hni' : ni' ≤ 16777216 := by rw [← eni']; exact HS.out.in_.inn.wf.il
          obtain ⟨OA, eOA⟩ : ∃ x, m'.OA = x := ⟨_, rfl⟩
          obtain ⟨IA, eIA⟩ : ∃ x, m'.IA = x := ⟨_, rfl⟩
          have HLO := Lh (show m'.os.length = no' from by rw [← eno]; exact HS.out.in_.inn.olen)
          have HLI := Lh (show m'.is.length = ni' from by rw [← eni']; exact HS.out.in_.inn.ilen)
          have HRO := Lh (fun W (h : MIn m' W) => show Reads W W.heap.size 7 OA no' (m'.os.flatMap omCs) from by have := h.rows.objs.rd; unfold MM.objs at this; rw [eno, eOA] at this; exact this)
          have HRI := Lh (fun W (h : MIn m' W) => show Reads W W.heap.size 9 IA ni' (m'.is.flatMap imCs) from by have := h.rows.ints.rd; unfold MM.ints at this; rw [eni', eIA] at this; exact this)
          have C3 := Lh (show mcs[3]? = some (.int .u64 mj) from by rw [← emcs, ← emj]; rfl)
          have C8 := Lh (show mcs[8]? = some (.slice OA no' m'.oc) from by rw [← emcs, ← eOA, ← eno]; rfl)
          have C9 := Lh (show mcs[9]? = some (.slice IA ni' m'.ic) from by rw [← emcs, ← eIA, ← eni']; rfl)
          have D3 := Lh (show cs[3]? = some (.int .u64 mi) from by rw [← ECS.out, ← emi]; rfl)
          have D5 := Lh (show cs[5]? = some (.int .u64 ni) from by rw [← ECS.out, ← eni]; rfl)
          have HMC := Lh emcs
          have HMZ := Lh (show mcs.size = 14 from by rw [← emcs]; rfl)
          have HMO := Lh (show mcs.toList.all (·.oneCell') = true from by rw [← emcs]; rfl)
          have HT7 := Lh (show Blk wk bx 34 mcs from by rw [← emcs]; exact HS.out.t7)
          have HBc := Lh (HBS.out.below HS.out.in_.bel HBS.out.lt)
          have HEM := Lh (And.intro emi (And.intro eni emj))
          have HMV := Lh (fun W (h : Below wk.heap.size wk W) (he : ∀ o ∈ m'.x.objs, o.epoch = m'.x.nep) => moving_none m' W (Lh (HS.out.in_.inn.later h)) (Lh (mst_of HRN.out.may)) (by have := HRN.out.last; omega) (Lh he))
          rw [emcs] at HMV
          have HCS1 := Lh (show CutS w GG m' b3 bx cs mcs wk from ⟨RW.out.bel.trans (HS.out.in_.bel.mono RW.out.bel.size), HS.out.in_.inn, fun q hq => HS.out.in_.off q (by simp [hq]), fun q hq => ⟨(RW.out.lt q hq).1, Nat.lt_of_lt_of_le (RW.out.lt q hq).2 HS.out.in_.bel.size⟩, HBc.out, HT7.out⟩)
          have H7N := Lh (show bx ∉ GG from fun h => by have := (RW.out.lt bx h).2; have := HS.out.g7; omega)
          have UP1 := Lh (UP.out.later HS.out.in_.bel)
          clear emcs emi eni emj eno eni' eOA eIA UP
          have y3 := (HT7.out.cell 3).trans C3.out
          have z3 := (HBc.out.cell 3).trans D3.out
          go_upto_if 50 with (fail)
          go_cut [10] from 50 to 89 (fun _ wx => Hid (Below wk.heap.size wk wx))
          case first =>
            by_cases hmm : mj = mi
            · have e1 : (mj != mi) = false := by rw [hmm]; simp
              clear hmm y3 z3
              go_wp2_with fail
              go_meet
              case rel => exact Lh (Below.refl _ _)
            · have hov : Over m.x m'.x cm.x := by
                rcases HOV.out with h1 | h1
                · exact absurd (by rw [← HEM.out.1, ← HEM.out.2.2, h1]) hmm
                · exact h1
              have e1 : (mj != mi) = true := by simpa using hmm
              have e2 : (mj != ni) = false := by
                have h1 := hov.mep
                have : mj = ni := by rw [← HEM.out.2.1, ← HEM.out.2.2, h1]
                rw [this]; simp
              have e3 : (kd != 7) = false := by rw [← HKD.out, hov.kind]; rfl
              have HMN := Lh (HMV.out wk (Below.refl _ _) (fun o ho => by rw [hov.os o ho, hov.nep]))
              have HIE := Lh (show ∀ i ∈ m'.is, (i.x.obj.epoch : Int) = mj from fun i hi => by rw [← HEM.out.2.2, hov.mep, hov.is i.x (int_mem HS.out.in_.inn hi)])
              clear hmm hov y3 z3
              go_upto_region 16 with (first
                | (refine wpl_load_blk rfl 34 (.tmp 7) rfl bx 34 mcs _ rfl HT7.out Tryz.underlying34 rfl (by rw [HMZ.out]; exact Tryz.szSt) ?_)
                | (go_at_call 12; refine HMN.out.mono ?_; rintro e wd ⟨rfl, hbd⟩; have HBd := Lh hbd; have y3 := ((HT7.out.below hbd HT7.out.lt).cell 3).trans C3.out; have z5 := ((HBc.out.below hbd HBc.out.lt).cell 5).trans D5.out; have x0 : wd.cell? (ad.add (k * 16)) = some (.int .i64 kd) := (by simpa [Addr.add] using HCC.out wd (HS.out.in_.bel.trans (hbd.mono HS.out.in_.bel.size)) 0 _ HKC.out); clear hbd))
              clear y3 z5 x0
              go_wp2_with fail
              go_loopw [10] (fun vi wq => ∃ j : Nat, j ≤ ni' ∧ vi = .int .i64 j ∧ Hid (Below wd.heap.size wd wq)) (fun vi _ => ni' - (intOf vi).toNat)
              case atStart => exact ⟨0, by omega, rfl, Lh (Below.refl _ _)⟩
              case round =>
                obtain ⟨j, hj, rfl, HBj⟩ := hrel
                have BDJ := Lh (HBd.out.trans (HBj.out.mono HBd.out.size))
                have HT7j := Lh (HT7.out.below BDJ.out HT7.out.lt)
                have k9 := (HT7j.out.cell 9).trans C9.out
                by_cases hjt : j < ni'
                · have hjl : j < m'.is.length := by have := HLI.out; omega
                  obtain ⟨ai, rfl, haib, hic⟩ := elem_cells (cells := imCs) (K := 9) (fun _ => rfl) (HRI.out wr (HS.out.in_.inn.later BDJ.out)) hjl (by omega)
                  have hie := HIE.out m'.is[j] (List.getElem_mem hjl)
                  have r5 : wr.cell? ((ai.add (j * 9)).add 5) = some (.int .u64 mj) := by rw [← hie]; exact hic 5 _ rfl
                  have y3 := (HT7j.out.cell 3).trans C3.out
                  have q1 : (mj != mj) = false := by simp
                  clear hic hie haib hjl
                  go_upto_region 19 with (fail)
                  refine wp_region_late (S0 := fun w' => Below wr.heap.size wr w' ∧ w'.cell? ⟨bx, 9, none⟩ = some (.slice (some ai) ni' m'.ic) ∧ w'.cell? ⟨(ai.add (j * 9)).block, (ai.add (j * 9)).off + 5, none⟩ = some (.int .u64 mj) ∧ w'.cell? ⟨bx, 3, none⟩ = some (.int .u64 mj)) (S := fun _ => True) 10 11 (by kernel_rfl) rfl ⟨⟨(Below.refl _ _).drew, k9, r5, y3⟩, trivial⟩ (fun wz hwd hH => ?_)
                  have DW := Lh (show Below wr.heap.size wr wz from by rw [hwd]; exact (Below.refl _ _).drew)
                  clear hwd
                  refine wpAnyT_stay 0 (v := ?_) rfl (by kernel_rfl) (fun _ _ _ h => h) (Or.inl ⟨by rfl, ?_⟩) ⟨hH.1, fun _ => hH.2⟩ ?_
                  rotate_left
                  · (intro wx hx; obtain ⟨_, _, _, _⟩ := hx; go_simp <;> with_reducible rfl)
                  try simp only [Act.put, pA9, pZ9, pS9]
                  refine wpAnyT_stay 1 (v := ?_) rfl (by kernel_rfl) (fun _ _ _ h => h) (Or.inl ⟨by rfl, ?_⟩) ⟨hH.1, fun _ => hH.2⟩ ?_
                  rotate_left
                  · (intro wx hx; obtain ⟨_, _, _, _⟩ := hx; go_simp <;> with_reducible rfl)
                  try simp only [Act.put, pA9, pZ9, pS9]
                  refine wpAnyT_stay 2 (v := ?_) rfl (by kernel_rfl) (fun _ _ _ h => h) (Or.inl ⟨by rfl, ?_⟩) ⟨hH.1, fun _ => hH.2⟩ ?_
                  rotate_left
                  · (intro wx hx; obtain ⟨_, _, _, _⟩ := hx; go_simp <;> with_reducible rfl)
                  try simp only [Act.put, pA9, pZ9, pS9]
                  refine wpAnyT_stay 3 (v := ?_) rfl (by kernel_rfl) (fun _ _ _ h => h) (Or.inl ⟨by rfl, ?_⟩) ⟨hH.1, fun _ => hH.2⟩ ?_
                  rotate_left
                  · (intro wx hx; obtain ⟨_, _, _, _⟩ := hx; go_simp <;> with_reducible rfl)
                  try simp only [Act.put, pA9, pZ9, pS9]
                  refine wpAnyT_stay 4 (v := ?_) rfl (by kernel_rfl) (fun _ _ _ h => h) (Or.inl ⟨by rfl, ?_⟩) ⟨hH.1, fun _ => hH.2⟩ ?_
                  rotate_left
                  · (intro wx hx; obtain ⟨_, _, _, _⟩ := hx; go_simp <;> with_reducible rfl)
                  try simp only [Act.put, pA9, pZ9, pS9]
                  refine wpAnyT_stay 5 (v := ?_) rfl (by kernel_rfl) (fun _ _ _ h => h) (Or.inl ⟨by rfl, ?_⟩) ⟨hH.1, fun _ => hH.2⟩ ?_
                  rotate_left
                  · (intro wx hx; obtain ⟨_, _, _, _⟩ := hx; go_simp <;> with_reducible rfl)
                  try simp only [Act.put, pA9, pZ9, pS9]
                  refine wpAnyT_stay 6 (v := ?_) rfl (by kernel_rfl) (fun _ _ _ h => h) (Or.inl ⟨by rfl, ?_⟩) ⟨hH.1, fun _ => hH.2⟩ ?_
                  rotate_left
                  · (intro wx hx; obtain ⟨_, _, _, _⟩ := hx; go_simp <;> with_reducible rfl)
                  try simp only [Act.put, pA9, pZ9, pS9]
                  refine wpAnyT_stay 7 (v := ?_) rfl (by kernel_rfl) (fun _ _ _ h => h) (Or.inl ⟨by rfl, ?_⟩) ⟨hH.1, fun _ => hH.2⟩ ?_
                  rotate_left
                  · (intro wx hx; obtain ⟨_, _, _, _⟩ := hx; go_simp <;> with_reducible rfl)
                  try simp only [Act.put, pA9, pZ9, pS9]
                  refine wpAnyT_stay 8 (v := ?_) rfl (by kernel_rfl) (fun _ _ _ h => h) (Or.inl ⟨by rfl, ?_⟩) ⟨hH.1, fun _ => hH.2⟩ ?_
                  rotate_left
                  · (intro wx hx; obtain ⟨_, _, _, _⟩ := hx; go_simp <;> with_reducible rfl)
                  try simp only [Act.put, pA9, pZ9, pS9]
                  refine wpAnyT_stay 9 (v := ?_) rfl (by kernel_rfl) (fun _ _ _ h => h) (Or.inl ⟨by rfl, ?_⟩) ⟨hH.1, fun _ => hH.2⟩ ?_
                  rotate_left
                  · (intro wx hx; obtain ⟨_, _, _, _⟩ := hx; go_simp <;> with_reducible rfl)
                  try simp only [Act.put, pA9, pZ9, pS9]
                  refine wpAnyT_last 10 rfl (by kernel_rfl) (by decide) (fun K hQ => ?_)
                  go_simp
                  refine hQ.out _ _ ?_ (fun hH10 => ?_)
                  · exact hH.1
                  clear hQ K
                  try simp only [Act.put, pA9, pZ9, pS9]
                  refine wpAnyT_done (by kernel_rfl) ?_ _
                  clear hH hH10 k9 r5 y3
                  go_wp2
                  exact ⟨⟨j + 1, by omega, by go_num, Lh (HBj.out.trans (DW.out.mono HBj.out.size))⟩, by simp [intOf]; omega⟩
                · obtain rfl : ni' = j := by omega
                  go_wp2_with fail
                  go_meet
                  case rel => exact BDJ
          case rest =>
            obtain ⟨w5, hw5⟩ : ∃ w5, w5 = wc := ⟨_, rfl⟩
            subst hw5
            have B5 := Lh hcut.out
            have BP5 := Lh (HS.out.in_.bel.trans (B5.out.mono HS.out.in_.bel.size))
            have HCS5 := Lh (HCS1.out.later B5.out)
            have UP5 := Lh (UP1.out.later B5.out)
            clear hcut
            have x0 : w5.cell? (ad.add (k * 16)) = some (.int .i64 kd) := by simpa [Addr.add] using HCC.out w5 BP5.out 0 _ HKC.out
            have r0 := ((HS.out.t8.below B5.out HS.out.t8.lt).cell 0).trans R0.out
            obtain ⟨pp, epp⟩ : ∃ pp, ((kd == 3) && (rc == 1)) = pp := ⟨_, rfl⟩
            have EPP := Lh epp
            clear epp
            clear y3 z3
            go_upto_region 21 with (fail)
            go_cut [100] from 90 to 99 (fun s100 wx => s100 = .bool pp ∧ Hid (w5 = wx))
            case first =>
              cases e1 : kd == 3 with
              | false =>
                go_wp2_with fail
                go_meet
                case rel => exact ⟨by rw [← EPP.out, e1]; rfl, Lh rfl⟩
              | true =>
                cases e2 : rc == 1 with
                | false =>
                  go_wp2_with fail
                  go_meet
                  case rel => exact ⟨by rw [← EPP.out, e1, e2]; rfl, Lh rfl⟩
                | true =>
                  go_wp2_with fail
                  go_meet
                  case rel => exact ⟨by rw [← EPP.out, e1, e2]; rfl, Lh rfl⟩
            case rest =>
              obtain ⟨rfl, hw⟩ := hcut
              have hw := hw.out
              subst hw
              clear x0 r0
              have x6 : w5.cell? ⟨(ad.add (k * 16)).block, (ad.add (k * 16)).off + 6, none⟩ = some (.int .u64 (cv : Int)) := HCC.out w5 BP5.out 6 _ HKV.out
              go_upto_if 100 with (fail)
              go_cut [5] from 101 to 108 (fun s5 wx => ∃ (U' G' : List Nat), Hid (CutS w G' m' b3 bx cs mcs wx) ∧ Hid (UpS base G' s5 U' wx) ∧ Hid (∀ v ∈ U', Gone m'.x v) ∧ U'.length ≤ U.length + 1 ∧ Hid (∀ q ∈ GG, q ∈ G'))
              case first =>
                cases pp with
                | false =>
                  clear x6
                  go_wp2_with fail
                  go_meet
                  case rel => exact ⟨U, GG, HCS5, UP5, HGK, by omega, Lh fun q hq => hq⟩
                | true =>
                  have hgo : Gone m'.x cv := by
                    have h := EPP.out
                    rw [Bool.and_eq_true, beq_iff_eq, beq_iff_eq] at h
                    exact HGN.out h.1 h.2
                  have HGV := Lh hgo
                  clear hgo
                  go_wp2_with (refine wpl_up rfl (.tmp 101) (.tmp 107) rfl UP5.out.row UP5.out.sz (by omega) cv rfl rfl ?_; intro v' wy k1 k2 k3)
                  go_meet
                  case rel =>
                    obtain ⟨G', g1, g2, g3⟩ := up_more HCS5.out UP5.out H3B.out H7N.out HWB.out k1.out k2.out k3.out
                    exact ⟨U ++ [cv], G', Lh g2, Lh g3, Lh (fun v hv => by
                      rcases List.mem_append.1 hv with hv | hv
                      · exact HGK.out v hv
                      · rw [List.mem_singleton.1 hv]; exact HGV.out), by simp, Lh g1⟩
              case rest =>
                obtain ⟨U', G', HC6, UP6, HG6, hul', HGG⟩ := hcut
                obtain ⟨w6, hw6⟩ : ∃ w6, w6 = wc := ⟨_, rfl⟩
                subst hw6
                clear x6
                obtain ⟨n3, en3⟩ : ∃ n3, U'.length = n3 := ⟨_, rfl⟩
                have hn3 : n3 ≤ 1000 := by omega
                have hrow := UP6.out.row
                rw [en3] at hrow
                obtain ⟨UA, uc, rfl, _, _⟩ := own_slice hrow
                have HRU := Lh (Reads.of_own hrow)
                have HLU := Lh en3
                have hul2 : n3 ≤ k + 1 := by omega
                clear hrow en3 hul'
                go_wp2_with fail
                go_loopw [11] (fun vi wq => ∃ i : Nat, i ≤ n3 ∧ vi = .int .i64 i ∧ Hid (Below w6.heap.size w6 wq)) (fun vi _ => n3 - (intOf vi).toNat)
                case atStart => exact ⟨0, by omega, rfl, Lh (Below.refl _ _)⟩
                case round =>
                  obtain ⟨i, hi, rfl, HBi⟩ := hrel
                  by_cases hit : i < n3
                  · have hgu : ∀ o ∈ m'.x.objs, o.version ≠ U'.getD i 0 := by
                      have hm : U'.getD i 0 ∈ U' := by
                        have := HLU.out
                        rw [List.getD_eq_getElem?_getD, List.getElem?_eq_getElem (by omega)]
                        exact List.getElem_mem _
                      exact (HG6.out _ hm).os
                    obtain ⟨au, rfl, haub, hcu⟩ := reads_uv (HRU.out.later HBi.out) hit
                    obtain ⟨uu, euu⟩ : ∃ uu, U'.getD i 0 = uu := ⟨_, rfl⟩
                    rw [euu] at hcu hgu
                    have HCU := Lh hcu
                    have HGU := Lh hgu
                    clear euu hcu hgu haub
                    obtain ⟨w7, hw7⟩ : ∃ w7, w7 = wr := ⟨_, rfl⟩
                    subst hw7
                    go_wp2_with fail
                    go_loopw [12] (fun vi wq => ∃ j : Nat, j ≤ no' ∧ vi = .int .i64 j ∧ Hid (Below w7.heap.size w7 wq)) (fun vi _ => no' - (intOf vi).toNat)
                    case atStart => exact ⟨0, by omega, rfl, Lh (Below.refl _ _)⟩
                    case round =>
                      obtain ⟨j, hj, rfl, HBj⟩ := hrel
                      have B6J := Lh (HBi.out.trans (HBj.out.mono HBi.out.size))
                      have HC7 := Lh (HC6.out.later B6J.out)
                      have k8 := (HC7.out.b7.cell 8).trans C8.out
                      by_cases hjt : j < no'
                      · have hjl : j < m'.os.length := by have := HLO.out; omega
                        obtain ⟨ao, rfl, haob, hoc⟩ := elem_cells (cells := omCs) (K := 7) (fun _ => rfl) (HRO.out wr HC7.out.inn) hjl (by omega)
                        have hne := HGU.out _ (obj_mem HC7.out.inn (List.getElem_mem hjl))
                        obtain ⟨o, eo⟩ : ∃ o, m'.os[j] = o := ⟨_, rfl⟩
                        rw [eo] at hoc hne
                        have r1 : wr.cell? ((ao.add (j * 7)).add 1) = some (.int .u64 (o.x.version : Int)) := hoc 1 _ rfl
                        have r2 := cell_later HBj.out HCU.out
                        have q1 : ((o.x.version : Int) == (uu : Int)) = false := by rw [beq_eq_false_iff_ne]; omega
                        clear hoc hne haob hjl eo
                        go_upto_region 29 with (fail)
                        refine wp_region_late (S0 := fun w' => Below wr.heap.size wr w' ∧ w'.cell? ⟨bx, 8, none⟩ = some (.slice (some ao) no' m'.oc) ∧ w'.cell? ⟨(ao.add (j * 7)).block, (ao.add (j * 7)).off + 1, none⟩ = some (.int .u64 (o.x.version : Int)) ∧ w'.cell? (au.add i) = some (.int .u64 (uu : Int))) (S := fun _ => True) 10 11 (by kernel_rfl) rfl ⟨⟨(Below.refl _ _).drew, k8, r1, r2⟩, trivial⟩ (fun wz hwd hH => ?_)
                        have DW := Lh (show Below wr.heap.size wr wz from by rw [hwd]; exact (Below.refl _ _).drew)
                        clear hwd
                        refine wpAnyT_stay 0 (v := ?_) rfl (by kernel_rfl) (fun _ _ _ h => h) (Or.inl ⟨by rfl, ?_⟩) ⟨hH.1, fun _ => hH.2⟩ ?_
                        rotate_left
                        · (intro wx hx; obtain ⟨_, _, _, _⟩ := hx; go_simp <;> with_reducible rfl)
                        try simp only [Act.put, pA9, pZ9, pS9]
                        refine wpAnyT_stay 1 (v := ?_) rfl (by kernel_rfl) (fun _ _ _ h => h) (Or.inl ⟨by rfl, ?_⟩) ⟨hH.1, fun _ => hH.2⟩ ?_
                        rotate_left
                        · (intro wx hx; obtain ⟨_, _, _, _⟩ := hx; go_simp <;> with_reducible rfl)
                        try simp only [Act.put, pA9, pZ9, pS9]
                        refine wpAnyT_stay 2 (v := ?_) rfl (by kernel_rfl) (fun _ _ _ h => h) (Or.inl ⟨by rfl, ?_⟩) ⟨hH.1, fun _ => hH.2⟩ ?_
                        rotate_left
                        · (intro wx hx; obtain ⟨_, _, _, _⟩ := hx; go_simp <;> with_reducible rfl)
                        try simp only [Act.put, pA9, pZ9, pS9]
                        refine wpAnyT_stay 3 (v := ?_) rfl (by kernel_rfl) (fun _ _ _ h => h) (Or.inl ⟨by rfl, ?_⟩) ⟨hH.1, fun _ => hH.2⟩ ?_
                        rotate_left
                        · (intro wx hx; obtain ⟨_, _, _, _⟩ := hx; go_simp <;> with_reducible rfl)
                        try simp only [Act.put, pA9, pZ9, pS9]
                        refine wpAnyT_stay 4 (v := ?_) rfl (by kernel_rfl) (fun _ _ _ h => h) (Or.inl ⟨by rfl, ?_⟩) ⟨hH.1, fun _ => hH.2⟩ ?_
                        rotate_left
                        · (intro wx hx; obtain ⟨_, _, _, _⟩ := hx; go_simp <;> with_reducible rfl)
                        try simp only [Act.put, pA9, pZ9, pS9]
                        refine wpAnyT_stay 5 (v := ?_) rfl (by kernel_rfl) (fun _ _ _ h => h) (Or.inl ⟨by rfl, ?_⟩) ⟨hH.1, fun _ => hH.2⟩ ?_
                        rotate_left
                        · (intro wx hx; obtain ⟨_, _, _, _⟩ := hx; go_simp <;> with_reducible rfl)
                        try simp only [Act.put, pA9, pZ9, pS9]
                        refine wpAnyT_stay 6 (v := ?_) rfl (by kernel_rfl) (fun _ _ _ h => h) (Or.inl ⟨by rfl, ?_⟩) ⟨hH.1, fun _ => hH.2⟩ ?_
                        rotate_left
                        · (intro wx hx; obtain ⟨_, _, _, _⟩ := hx; go_simp <;> with_reducible rfl)
                        try simp only [Act.put, pA9, pZ9, pS9]
                        refine wpAnyT_stay 7 (v := ?_) rfl (by kernel_rfl) (fun _ _ _ h => h) (Or.inl ⟨by rfl, ?_⟩) ⟨hH.1, fun _ => hH.2⟩ ?_
                        rotate_left
                        · (intro wx hx; obtain ⟨_, _, _, _⟩ := hx; go_simp <;> with_reducible rfl)
                        try simp only [Act.put, pA9, pZ9, pS9]
                        refine wpAnyT_stay 8 (v := ?_) rfl (by kernel_rfl) (fun _ _ _ h => h) (Or.inl ⟨by rfl, ?_⟩) ⟨hH.1, fun _ => hH.2⟩ ?_
                        rotate_left
                        · (intro wx hx; obtain ⟨_, _, _, _⟩ := hx; go_simp <;> with_reducible rfl)
                        try simp only [Act.put, pA9, pZ9, pS9]
                        refine wpAnyT_stay 9 (v := ?_) rfl (by kernel_rfl) (fun _ _ _ h => h) (Or.inl ⟨by rfl, ?_⟩) ⟨hH.1, fun _ => hH.2⟩ ?_
                        rotate_left
                        · (intro wx hx; obtain ⟨_, _, _, _⟩ := hx; go_simp <;> with_reducible rfl)
                        try simp only [Act.put, pA9, pZ9, pS9]
                        refine wpAnyT_last 10 rfl (by kernel_rfl) (by decide) (fun K hQ => ?_)
                        go_simp
                        refine hQ.out _ _ ?_ (fun hH10 => ?_)
                        · exact hH.1
                        clear hQ K
                        try simp only [Act.put, pA9, pZ9, pS9]
                        refine wpAnyT_done (by kernel_rfl) ?_ _
                        clear hH hH10 k8 r1 r2
                        go_wp2
                        exact ⟨⟨j + 1, by omega, by go_num, Lh (HBj.out.trans (DW.out.mono HBj.out.size))⟩, by simp [intOf]; omega⟩
                      · obtain rfl : no' = j := by omega
                        go_wp2
                        exact ⟨⟨i + 1, by omega, by go_num, B6J⟩, by simp [intOf]; omega⟩
                  · obtain rfl : n3 = i := by omega
                    have HC8 := Lh (HC6.out.later HBi.out)
                    go_wp2_with (first
                      | (refine wpl_load_blk rfl 34 (.tmp 7) rfl bx 34 mcs _ rfl HC8.out.b7 Tryz.underlying34 rfl (by rw [HMZ.out]; exact Tryz.szSt) ?_)
                      | (refine wpl_store_blk rfl 34 (.tmp 3) (.tmp 133) rfl b3 34 cs mcs rfl rfl HC8.out.b3 (by rw [HCS.out, HMZ.out]) (by rw [HMZ.out]; exact Tryz.szSt) HMO.out ?_; intro we hBe hOe))
                    have h3m : b3 ∈ G' := HGG.out b3 RW.out.mem
                    have HN := Lh (show RunW w G' b3 m' (k + 1) we from ⟨HC8.out.bel.trans (hOe.out.below (HC8.out.lt b3 h3m).1), by rw [HMC.out]; exact hBe.out, min_store HC8.out.inn hOe.out (HC8.out.off b3 h3m), HC8.out.off, fun q hq => ⟨(HC8.out.lt q hq).1, by rw [hOe.out.size]; exact (HC8.out.lt q hq).2⟩, h3m, HRN.out⟩)
                    have HU9 := Lh ((UP6.out.later HBi.out).store hOe.out H3B.out)
                    clear hw1 hw2
                    exact ⟨⟨k + 1, m', U', G', by omega, by have := HLU.out; omega, by rw [HQ.out], HN, HU9, HG6⟩, by have := HQ.out; simp [intOf]; omega⟩
      · obtain rfl : n = k := by omega
        go_wp2_with (go_at_call 7; refine (HHD.out wr).mono ?_; rintro e w9 ⟨rfl, hb9⟩; have HB9 := Lh hb9; clear hb9)
        go_ret
        exact ⟨rfl, RW.out.bel.trans (HB9.out.mono RW.out.bel.size)⟩
  · have d1 : decide ((n : Int) > 150) = true := decide_eq_true (by omega)
    have d2 : decide (150 < (n : Int)) = true := decide_eq_true (by omega)
    have d3 : decide (150 < n) = true := decide_eq_true (by omega)
    go_enter Tryz.func6, Tryz.ntmps6
    go_wp2_with (go_at_call 7; refine (HHD.out w).mono ?_; rintro e w9 ⟨rfl, hb9⟩)
    go_ret
    exact ⟨rfl, hb9⟩
set_option maxRecDepth 100000 in
theorem walk_MetaCuts {H : Type} {enc : TypeId × Value → H} (W : World) {base : Nat} (v : Value) (d : DataW H) (p : List MemPlace) (h : DataW.Trod enc Tryz.prog W 0 (fun _ => true) true 22 v d p) (hok : Value.okWide Tryz.prog W .any base 22 v) :
    Calls Tryz.prog 6 #[v] W fun e W' => e = .returned (.bool true) ∧ Below W.heap.size W W' := by
  obtain ⟨A0, len0, cap0, rfl⟩ := Go.WideShapes.okWide_slice Tryz.underlying22 hok
  obtain ⟨fuel, hf⟩ := h
  have hv : (Value.slice A0 len0 cap0).cells.toList = [.slice A0 len0 cap0] := rfl
  rw [hv] at hf
  obtain ⟨A, n, cap, es, e, hr, hl, he, hc, hm⟩ := open_cms hf
  injection e with e1 e2 e3
  subst e1 e2 e3
  exact cuts_any A0 len0 cap0 es W (Lh hr) (Lh hl) (Lh he)
namespace metaCuts
open Go.ChangeShapes Go.WideShapes Go.ChangeAt Go.RowKit
open Go.ChangeMaps (open_string shut_string)
set_option linter.unusedVariables false
theorem own : ownKnob Tryz.prog.godebug = none := by kernel_rfl
theorem laidOut : laidOutB Tryz.prog = true := by kernel_rfl
set_option maxRecDepth 100000 in
theorem contract (H : Type) (enc : TypeId × Value → H) (W : World) (base : Nat) (args : Array Value) (ds gs : List (DataW H)) (before : List MemPlace)
    (hval0 : ∀ (j : Nat) t v, Tryz.f6.params[j]? = some t → args[j]? = some v → Value.okWide Tryz.prog W .any base t v)
    (hW : DataW.Whole enc Tryz.prog Tryz.f6.params.toList Rows.metaCutsSpec.vars false W args.toList ds gs before) :
    Calls Tryz.prog 6 args W fun e W' => ∃ v, e = .returned v ∧ Rows.metaCutsSpec.post enc Tryz.prog Tryz.f6 false true false false W args v W' := by
  have hval : ∀ (j : Nat) t v, Tryz.f6.params[j]? = some t → args[j]? = some v → Value.okWide Tryz.prog W .any base t v := hval0
  have hW' := hW
  obtain ⟨p, q, hA0, hV, rfl, hfz, hnd⟩ := hW
  have hA : DataW.TrodAll enc Tryz.prog W 0 (fun _ => true) true Tryz.f6.params.toList args.toList ds p := hA0
  rw [Tryz.params6] at hA hval
  obtain ⟨v0, vs0, d0, ds0, p0, q0, hargs, rfl, rfl, h0, r0⟩ := trodAll_cons hA
  obtain ⟨rfl, rfl, rfl⟩ := trodAll_nil r0
  obtain rfl : args = #[v0] := by cases args; simp_all
  obtain ⟨rfl, rfl⟩ := trodVars_none hV
  have k0 := h0
  have lt0 : ∀ x ∈ p0, x.block < W.heap.size := by obtain ⟨m, hm⟩ := k0; exact DataW.trod_lt m _ _ _ hm
  clear hA0 hval0
  refine (walk_MetaCuts W v0 d0 p0 h0 (hval 0 22 v0 rfl rfl)).mono fun e W' ⟨he, bel⟩ => ?_
  subst he
  exact ⟨_, rfl, _, _, _, [], _, [], hW', trodAll_mk1 (shut_bool Tryz.underlying4 _), (trodAll_cons_mk (Below.trod laidOut (by kernel_rfl) (of_decide_eq_true (by kernel_rfl)) k0 bel lt0) trodAll_mk0), rfl, bel.frame _, fun h => by cases h⟩
set_option maxRecDepth 100000 in
theorem lifted (os : Os) (started : os.Started) (H : Type) (enc : TypeId × Value → H) :
    ReturnsInHanded {} Tryz.checked os 6 .any (Rows.metaCutsSpec.pre6 enc Tryz.prog Tryz.f6 Rows.metaCutsRow.domain false) (Rows.metaCutsSpec.post enc Tryz.prog Tryz.f6 false true false false) := by
  refine returnsInHanded_of_change (C := Tryz.checked) own started (by kernel_rfl) Tryz.func6
    (ChangeSpec.witness6 (enc := enc) (C := Tryz.checked) false ⟨#[], #[.slice none 0 0], []⟩ 8 (by kernel_rfl) (by kernel_rfl) (by kernel_rfl) (by kernel_rfl)) ?_
  intro W base args ds gs before hval hW _ _
  exact contract H enc W base args ds gs before hval hW
theorem over : Rows.metaCutsRow.holds Tryz.pinned (OpenSpec.ofChange Rows.metaCutsSpec) :=
  OpenClaim.holds_of_wide 6 Tryz.f6 rfl rfl rfl rfl rfl rfl rfl ⟨rfl, rfl, rfl, rfl, rfl⟩ rfl rfl rfl rfl rfl (by kernel_rfl) Tryz.func6 (by kernel_rfl)
    (of_decide_eq_true (by kernel_rfl)) (by unfold Func.isWrapper; first | (rw [if_pos (by decide +kernel)]; kernel_rfl) | (rw [if_neg (by decide +kernel)]; exact ⟨rfl, rfl⟩))
    (fun os started H enc _ => lifted os started H enc)
theorem proved : Rows.MetaCutsSaid := over
end metaCuts
end Go.Proofs.YtdoneomahlfkbaaGreat
