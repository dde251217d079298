/-
  THE PROGRAM'S WRITER: states. (printed by gen_pas9.py). (joined out of PaS9 by shake.py)
-/
import Derived.Test.YthgiafjiemiifaaGreatPbk38
section
namespace Go.Proofs.YthgiafjiemiifaaGreat
open Go.RowKit OctMath
set_option linter.unusedVariables false
theorem pObjs_len {x : List ObjT} (h : (∀ y ∈ x, ObjOk y) ∧ x.length ≤ 1048576) : (pList pObj x).length ≤ 12094799872010 := by
  have h1 := pList_len pObj 11534500 x (fun y hy => pObj_len (h.1 y hy)) h.2
  have := h.2
  omega
theorem pIntents_len {x : List IntT} (h : (∀ y ∈ x, InteOk y) ∧ x.length ≤ 1048576) : (pList pIntent x).length ≤ 12094820843530 := by
  have h1 := pList_len pIntent 11534520 x (fun y hy => pIntent_len (h.1 y hy)) h.2
  have := h.2
  omega
theorem pSess_len {x : List SesT} (h : (∀ y ∈ x, SesOk y) ∧ x.length ≤ 1048576) : (pList pSes x).length ≤ 52428810 := by
  have h1 := pList_len pSes 50 x (fun y hy => pSes_len (h.1 y hy)) h.2
  have := h.2
  omega
theorem pWass_len {x : List WasT} (h : (∀ y ∈ x, WasOk y) ∧ x.length ≤ 1048576) : (pList pWas x).length ≤ 41943050 := by
  have h1 := pList_len pWas 40 x (fun y hy => pWas_len (h.1 y hy)) h.2
  have := h.2
  omega
theorem pMetS_len {x : MetT} (HO : MetOk x) : (pMet x).length ≤ 24189778002080 := by
  have h0 := pInt_len (x := x.k) HO.k
  have h1 := pInt_len (x := x.n) HO.n
  have h2 := pInt_len (x := x.groups) HO.groups
  have h3 := pMap_len (x := (x.mep, x.mem)) HO.map
  have h4 := pMap_len (x := (x.nep, x.nem)) HO.next
  have h5 := pInts_len (x := x.cut) HO.cut
  have h6 := pObjs_len (x := x.objs) HO.objs
  have h7 := pIntents_len (x := x.ints) HO.ints
  have h8 := pSess_len (x := x.sess) HO.sess
  have h9 := pWass_len (x := x.wass) HO.wass
  have h10 := pInts_len (x := x.down) HO.down
  have h11 := putN_len10 (n := x.last) HO.last
  unfold pMet
  simp only [List.length_append]
  omega
set_option maxRecDepth 100000 in
set_option maxHeartbeats 4000000 in
theorem sh_meta (H : Nat → Prop) (g : Nat) (xs : List Nat) (MA : Option Addr) (mc : Nat) (NA : Option Addr) (nc : Nat) (CA : Option Addr) (cc : Nat) (OA : Option Addr) (oc : Nat) (IA : Option Addr) (ic : Nat) (SA : Option Addr) (sc : Nat) (WA : Option Addr) (wc : Nat) (DA : Option Addr) (dc : Nat) (os : List OM) (is : List IM) (x : MetT) (w : World) (hp : Hid (Sh H g xs w)) (hS : Hid (Safe H g w)) (hKM : Hid (Reads w w.heap.size 2 MA x.mem.length (mcells x.mem))) (hKMH : Hid (0 < x.mem.length → ∀ ad, MA = some ad → H ad.block)) (hKN : Hid (Reads w w.heap.size 2 NA x.nem.length (mcells x.nem))) (hKNH : Hid (0 < x.nem.length → ∀ ad, NA = some ad → H ad.block)) (hKC : Hid (Reads w w.heap.size 1 CA x.cut.length (x.cut.map iv))) (hKCH : Hid (0 < x.cut.length → ∀ ad, CA = some ad → H ad.block)) (hKO : Hid (Reads w w.heap.size 7 OA x.objs.length (os.flatMap omCs))) (hKOH : Hid (0 < x.objs.length → ∀ ad, OA = some ad → H ad.block)) (hKI : Hid (Reads w w.heap.size 9 IA x.ints.length (is.flatMap imCs))) (hKIH : Hid (0 < x.ints.length → ∀ ad, IA = some ad → H ad.block)) (hKS : Hid (Reads w w.heap.size 5 SA x.sess.length (x.sess.flatMap seCs))) (hKSH : Hid (0 < x.sess.length → ∀ ad, SA = some ad → H ad.block)) (hKW : Hid (Reads w w.heap.size 4 WA x.wass.length (x.wass.flatMap waCs))) (hKWH : Hid (0 < x.wass.length → ∀ ad, WA = some ad → H ad.block)) (hKD : Hid (Reads w w.heap.size 1 DA x.down.length (x.down.map iv))) (hKDH : Hid (0 < x.down.length → ∀ ad, DA = some ad → H ad.block)) (HOs : Hid (os.map (·.x) = x.objs)) (HIs : Hid (is.map (·.x) = x.ints)) (hOI : Hid (∀ m ∈ os, Reads w w.heap.size 1 m.A m.x.nodes.length (m.x.nodes.map iv))) (hOIH : Hid (∀ m ∈ os, 0 < m.x.nodes.length → ∀ ad, m.A = some ad → H ad.block)) (hII : Hid (∀ m ∈ is, Reads w w.heap.size 1 m.A m.x.obj.nodes.length (m.x.obj.nodes.map iv))) (hIIH : Hid (∀ m ∈ is, 0 < m.x.obj.nodes.length → ∀ ad, m.A = some ad → H ad.block)) (HO : MetOk x) (hl : xs.length + 24189778002080 ≤ 70000000000000) :
    Calls Tryz.prog 32 #[.pointer (some ⟨g, 0, none⟩), .agg #[.int .i64 x.k, .int .i64 x.n, .int .i64 x.groups, .int .u64 (x.mep : Int), .slice MA x.mem.length mc, .int .u64 (x.nep : Int), .slice NA x.nem.length nc, .slice CA x.cut.length cc, .slice OA x.objs.length oc, .slice IA x.ints.length ic, .slice SA x.sess.length sc, .slice WA x.wass.length wc, .slice DA x.down.length dc, .int .u64 (x.last : Int)]] w (RetW H g (xs ++ pMet x) w) := by
  have HO := Lib.hid HO
  have HL := Lib.hid hl
  obtain ⟨w0, ew0⟩ : ∃ w0, (w.alloc (.cells #[.pointer (some ⟨g, 0, none⟩)] 84)).alloc (.cells #[.int .i64 x.k, .int .i64 x.n, .int .i64 x.groups, .int .u64 (x.mep : Int), .slice MA x.mem.length mc, .int .u64 (x.nep : Int), .slice NA x.nem.length nc, .slice CA x.cut.length cc, .slice OA x.objs.length oc, .slice IA x.ints.length ic, .slice SA x.sess.length sc, .slice WA x.wass.length wc, .slice DA x.down.length dc, .int .u64 (x.last : Int)] 53) = w0 := ⟨_, rfl⟩
  have hb : Below w.heap.size w ((w.alloc (.cells #[.pointer (some ⟨g, 0, none⟩)] 84)).alloc (.cells #[.int .i64 x.k, .int .i64 x.n, .int .i64 x.groups, .int .u64 (x.mep : Int), .slice MA x.mem.length mc, .int .u64 (x.nep : Int), .slice NA x.nem.length nc, .slice CA x.cut.length cc, .slice OA x.objs.length oc, .slice IA x.ints.length ic, .slice SA x.sess.length sc, .slice WA x.wass.length wc, .slice DA x.down.length dc, .int .u64 (x.last : Int)] 53)) := ((Below.refl _ _).alloc (Nat.le_refl _) _).alloc (by simp) _
  have hx : Blk ((w.alloc (.cells #[.pointer (some ⟨g, 0, none⟩)] 84)).alloc (.cells #[.int .i64 x.k, .int .i64 x.n, .int .i64 x.groups, .int .u64 (x.mep : Int), .slice MA x.mem.length mc, .int .u64 (x.nep : Int), .slice NA x.nem.length nc, .slice CA x.cut.length cc, .slice OA x.objs.length oc, .slice IA x.ints.length ic, .slice SA x.sess.length sc, .slice WA x.wass.length wc, .slice DA x.down.length dc, .int .u64 (x.last : Int)] 53)) (w.heap.size + 1) 53 #[.int .i64 x.k, .int .i64 x.n, .int .i64 x.groups, .int .u64 (x.mep : Int), .slice MA x.mem.length mc, .int .u64 (x.nep : Int), .slice NA x.nem.length nc, .slice CA x.cut.length cc, .slice OA x.objs.length oc, .slice IA x.ints.length ic, .slice SA x.sess.length sc, .slice WA x.wass.length wc, .slice DA x.down.length dc, .int .u64 (x.last : Int)] := by have := Blk.new (w.alloc (.cells #[.pointer (some ⟨g, 0, none⟩)] 84)) 53 #[.int .i64 x.k, .int .i64 x.n, .int .i64 x.groups, .int .u64 (x.mep : Int), .slice MA x.mem.length mc, .int .u64 (x.nep : Int), .slice NA x.nem.length nc, .slice CA x.cut.length cc, .slice OA x.objs.length oc, .slice IA x.ints.length ic, .slice SA x.sess.length sc, .slice WA x.wass.length wc, .slice DA x.down.length dc, .int .u64 (x.last : Int)]; simpa using this
  have hbb := (Blk.new w 84 #[.pointer (some ⟨g, 0, none⟩)]).alloc (.cells #[.int .i64 x.k, .int .i64 x.n, .int .i64 x.groups, .int .u64 (x.mep : Int), .slice MA x.mem.length mc, .int .u64 (x.nep : Int), .slice NA x.nem.length nc, .slice CA x.cut.length cc, .slice OA x.objs.length oc, .slice IA x.ints.length ic, .slice SA x.sess.length sc, .slice WA x.wass.length wc, .slice DA x.down.length dc, .int .u64 (x.last : Int)] 53)
  rw [ew0] at hb hx hbb
  obtain ⟨H2, eH⟩ : ∃ H2 : Nat → Prop, (fun k => H k ∨ (k = w.heap.size ∨ k = w.heap.size + 1)) = H2 := ⟨_, rfl⟩
  have h12 : ∀ k, H k → H2 k := fun k hk => by rw [← eH]; exact .inl hk
  have h2b : H2 w.heap.size := by rw [← eH]; exact .inr (.inl rfl)
  have h2c : H2 (w.heap.size + 1) := by rw [← eH]; exact .inr (.inr rfl)
  have HP := Lib.hid (show Sh H2 g xs w0 from (hp.out.mono (fun k hk => by rw [← eH] at hk; exact hk.imp id (fun e => by omega))).later hb)
  have HS := Lib.hid (show Safe H2 g w0 from fun k hk => by rw [← eH] at hk; rcases hk with hk | hk | hk; exact ⟨Nat.lt_of_lt_of_le (hS.out k hk).1 hb.size, (hS.out k hk).2⟩; exact ⟨by rw [hk]; exact hbb.lt, by have := hp.out.lt; omega⟩; exact ⟨by rw [hk]; exact hx.lt, by have := hp.out.lt; omega⟩)
  have HK := Lib.hid (Keep.below hb : Keep H w w0)
  have HX := Lib.hid hx
  have HB := Lib.hid hbb
  have H2C := Lib.hid h2c
  have OI := Lib.hid (fun m (hm : m ∈ os) => (hOI.out m hm).later hb)
  have II := Lib.hid (fun m (hm : m ∈ is) => (hII.out m hm).later hb)
  have KM := Lib.hid (hKM.out.later hb)
  have KN := Lib.hid (hKN.out.later hb)
  have KC := Lib.hid (hKC.out.later hb)
  have KO := Lib.hid (hKO.out.later hb)
  have KI := Lib.hid (hKI.out.later hb)
  have KS := Lib.hid (hKS.out.later hb)
  have KW := Lib.hid (hKW.out.later hb)
  have KD := Lib.hid (hKD.out.later hb)
  have H12 := Lib.hid h12
  have H2B := Lib.hid h2b
  clear hb hx hbb eH h12 h2b h2c
  have c0 := HX.out.cell 0
  have cb := HB.out.cell 0
  go_enter Tryz.func32, Tryz.ntmps32
  go_wp2_with fail
  clear ew0
  refine (sh_int H2 g xs x.k _ HP HS HO.out.k (by have := HL.out; omega)).mono ?_
  clear cb
  rintro e w1 ⟨rfl, h1, h2⟩
  clear c0
  obtain ⟨y1, hy⟩ : ∃ y, xs ++ pInt x.k = y := ⟨_, rfl⟩
  rw [hy] at h1
  have HL := Lib.hid (show y1.length + 24189778002070 ≤ 70000000000000 from by have h3 := HL.out; have h4 := pInt_len (x := x.k) HO.out.k; rw [← hy, List.length_append]; omega)
  have HY1 := Lib.hid hy
  have HP := Lib.hid h1
  have HS := Lib.hid (HS.out.keep h2)
  have HX := Lib.hid (h2.blk HX.out H2C.out)
  have HB := Lib.hid (h2.blk HB.out H2B.out)
  have OI := Lib.hid (fun m (hm : m ∈ os) => h2.reads (OI.out m hm) (fun h ad e => H12.out _ (hOIH.out m hm h ad e)))
  have II := Lib.hid (fun m (hm : m ∈ is) => h2.reads (II.out m hm) (fun h ad e => H12.out _ (hIIH.out m hm h ad e)))
  have HK := Lib.hid (HK.out.trans (h2.mono H12.out))
  have KM := Lib.hid (h2.reads KM.out (fun h ad e => H12.out _ (hKMH.out h ad e)))
  have KN := Lib.hid (h2.reads KN.out (fun h ad e => H12.out _ (hKNH.out h ad e)))
  have KC := Lib.hid (h2.reads KC.out (fun h ad e => H12.out _ (hKCH.out h ad e)))
  have KO := Lib.hid (h2.reads KO.out (fun h ad e => H12.out _ (hKOH.out h ad e)))
  have KI := Lib.hid (h2.reads KI.out (fun h ad e => H12.out _ (hKIH.out h ad e)))
  have KS := Lib.hid (h2.reads KS.out (fun h ad e => H12.out _ (hKSH.out h ad e)))
  have KW := Lib.hid (h2.reads KW.out (fun h ad e => H12.out _ (hKWH.out h ad e)))
  have KD := Lib.hid (h2.reads KD.out (fun h ad e => H12.out _ (hKDH.out h ad e)))
  clear h1 h2 hy
  have c1 := HX.out.cell 1
  have cb := HB.out.cell 0
  go_wp2_with fail
  refine (sh_int H2 g y1 x.n _ HP HS HO.out.n (by have := HL.out; omega)).mono ?_
  clear cb
  rintro e w2 ⟨rfl, h1, h2⟩
  clear c1
  obtain ⟨y2, hy⟩ : ∃ y, y1 ++ pInt x.n = y := ⟨_, rfl⟩
  rw [hy] at h1
  have HL := Lib.hid (show y2.length + 24189778002060 ≤ 70000000000000 from by have h3 := HL.out; have h4 := pInt_len (x := x.n) HO.out.n; rw [← hy, List.length_append]; omega)
  have HY2 := Lib.hid hy
  have HP := Lib.hid h1
  have HS := Lib.hid (HS.out.keep h2)
  have HX := Lib.hid (h2.blk HX.out H2C.out)
  have HB := Lib.hid (h2.blk HB.out H2B.out)
  have OI := Lib.hid (fun m (hm : m ∈ os) => h2.reads (OI.out m hm) (fun h ad e => H12.out _ (hOIH.out m hm h ad e)))
  have II := Lib.hid (fun m (hm : m ∈ is) => h2.reads (II.out m hm) (fun h ad e => H12.out _ (hIIH.out m hm h ad e)))
  have HK := Lib.hid (HK.out.trans (h2.mono H12.out))
  have KM := Lib.hid (h2.reads KM.out (fun h ad e => H12.out _ (hKMH.out h ad e)))
  have KN := Lib.hid (h2.reads KN.out (fun h ad e => H12.out _ (hKNH.out h ad e)))
  have KC := Lib.hid (h2.reads KC.out (fun h ad e => H12.out _ (hKCH.out h ad e)))
  have KO := Lib.hid (h2.reads KO.out (fun h ad e => H12.out _ (hKOH.out h ad e)))
  have KI := Lib.hid (h2.reads KI.out (fun h ad e => H12.out _ (hKIH.out h ad e)))
  have KS := Lib.hid (h2.reads KS.out (fun h ad e => H12.out _ (hKSH.out h ad e)))
  have KW := Lib.hid (h2.reads KW.out (fun h ad e => H12.out _ (hKWH.out h ad e)))
  have KD := Lib.hid (h2.reads KD.out (fun h ad e => H12.out _ (hKDH.out h ad e)))
  clear h1 h2 hy
  have c2 := HX.out.cell 2
  have cb := HB.out.cell 0
  go_wp2_with fail
  refine (sh_int H2 g y2 x.groups _ HP HS HO.out.groups (by have := HL.out; omega)).mono ?_
  clear cb
  rintro e w3 ⟨rfl, h1, h2⟩
  clear c2
  obtain ⟨y3, hy⟩ : ∃ y, y2 ++ pInt x.groups = y := ⟨_, rfl⟩
  rw [hy] at h1
  have HL := Lib.hid (show y3.length + 24189778002050 ≤ 70000000000000 from by have h3 := HL.out; have h4 := pInt_len (x := x.groups) HO.out.groups; rw [← hy, List.length_append]; omega)
  have HY3 := Lib.hid hy
  have HP := Lib.hid h1
  have HS := Lib.hid (HS.out.keep h2)
  have HX := Lib.hid (h2.blk HX.out H2C.out)
  have HB := Lib.hid (h2.blk HB.out H2B.out)
  have OI := Lib.hid (fun m (hm : m ∈ os) => h2.reads (OI.out m hm) (fun h ad e => H12.out _ (hOIH.out m hm h ad e)))
  have II := Lib.hid (fun m (hm : m ∈ is) => h2.reads (II.out m hm) (fun h ad e => H12.out _ (hIIH.out m hm h ad e)))
  have HK := Lib.hid (HK.out.trans (h2.mono H12.out))
  have KM := Lib.hid (h2.reads KM.out (fun h ad e => H12.out _ (hKMH.out h ad e)))
  have KN := Lib.hid (h2.reads KN.out (fun h ad e => H12.out _ (hKNH.out h ad e)))
  have KC := Lib.hid (h2.reads KC.out (fun h ad e => H12.out _ (hKCH.out h ad e)))
  have KO := Lib.hid (h2.reads KO.out (fun h ad e => H12.out _ (hKOH.out h ad e)))
  have KI := Lib.hid (h2.reads KI.out (fun h ad e => H12.out _ (hKIH.out h ad e)))
  have KS := Lib.hid (h2.reads KS.out (fun h ad e => H12.out _ (hKSH.out h ad e)))
  have KW := Lib.hid (h2.reads KW.out (fun h ad e => H12.out _ (hKWH.out h ad e)))
  have KD := Lib.hid (h2.reads KD.out (fun h ad e => H12.out _ (hKDH.out h ad e)))
  clear h1 h2 hy
  have c3 := HX.out.cell 3
  have c4 := HX.out.cell 4
  have cb := HB.out.cell 0
  go_wp2_with fail
  refine (sh_map H2 g y3 MA mc (x.mep, x.mem) _ HP HS KM (Lib.hid (fun h ad e => H12.out _ (hKMH.out h ad e))) HO.out.map (by have := HL.out; omega)).mono ?_
  clear cb
  rintro e w4 ⟨rfl, h1, h2⟩
  clear c3
  clear c4
  obtain ⟨y4, hy⟩ : ∃ y, y3 ++ pMap (x.mep, x.mem) = y := ⟨_, rfl⟩
  rw [hy] at h1
  have HL := Lib.hid (show y4.length + 24189757030500 ≤ 70000000000000 from by have h3 := HL.out; have h4 := pMap_len (x := (x.mep, x.mem)) HO.out.map; rw [← hy, List.length_append]; omega)
  have HY4 := Lib.hid hy
  have HP := Lib.hid h1
  have HS := Lib.hid (HS.out.keep h2)
  have HX := Lib.hid (h2.blk HX.out H2C.out)
  have HB := Lib.hid (h2.blk HB.out H2B.out)
  have OI := Lib.hid (fun m (hm : m ∈ os) => h2.reads (OI.out m hm) (fun h ad e => H12.out _ (hOIH.out m hm h ad e)))
  have II := Lib.hid (fun m (hm : m ∈ is) => h2.reads (II.out m hm) (fun h ad e => H12.out _ (hIIH.out m hm h ad e)))
  have HK := Lib.hid (HK.out.trans (h2.mono H12.out))
  have KM := Lib.hid (h2.reads KM.out (fun h ad e => H12.out _ (hKMH.out h ad e)))
  have KN := Lib.hid (h2.reads KN.out (fun h ad e => H12.out _ (hKNH.out h ad e)))
  have KC := Lib.hid (h2.reads KC.out (fun h ad e => H12.out _ (hKCH.out h ad e)))
  have KO := Lib.hid (h2.reads KO.out (fun h ad e => H12.out _ (hKOH.out h ad e)))
  have KI := Lib.hid (h2.reads KI.out (fun h ad e => H12.out _ (hKIH.out h ad e)))
  have KS := Lib.hid (h2.reads KS.out (fun h ad e => H12.out _ (hKSH.out h ad e)))
  have KW := Lib.hid (h2.reads KW.out (fun h ad e => H12.out _ (hKWH.out h ad e)))
  have KD := Lib.hid (h2.reads KD.out (fun h ad e => H12.out _ (hKDH.out h ad e)))
  clear h1 h2 hy
  have c5 := HX.out.cell 5
  have c6 := HX.out.cell 6
  have cb := HB.out.cell 0
  go_wp2_with fail
  refine (sh_map H2 g y4 NA nc (x.nep, x.nem) _ HP HS KN (Lib.hid (fun h ad e => H12.out _ (hKNH.out h ad e))) HO.out.next (by have := HL.out; omega)).mono ?_
  clear cb
  rintro e w5 ⟨rfl, h1, h2⟩
  clear c5
  clear c6
  obtain ⟨y5, hy⟩ : ∃ y, y4 ++ pMap (x.nep, x.nem) = y := ⟨_, rfl⟩
  rw [hy] at h1
  have HL := Lib.hid (show y5.length + 24189736058950 ≤ 70000000000000 from by have h3 := HL.out; have h4 := pMap_len (x := (x.nep, x.nem)) HO.out.next; rw [← hy, List.length_append]; omega)
  have HY5 := Lib.hid hy
  have HP := Lib.hid h1
  have HS := Lib.hid (HS.out.keep h2)
  have HX := Lib.hid (h2.blk HX.out H2C.out)
  have HB := Lib.hid (h2.blk HB.out H2B.out)
  have OI := Lib.hid (fun m (hm : m ∈ os) => h2.reads (OI.out m hm) (fun h ad e => H12.out _ (hOIH.out m hm h ad e)))
  have II := Lib.hid (fun m (hm : m ∈ is) => h2.reads (II.out m hm) (fun h ad e => H12.out _ (hIIH.out m hm h ad e)))
  have HK := Lib.hid (HK.out.trans (h2.mono H12.out))
  have KM := Lib.hid (h2.reads KM.out (fun h ad e => H12.out _ (hKMH.out h ad e)))
  have KN := Lib.hid (h2.reads KN.out (fun h ad e => H12.out _ (hKNH.out h ad e)))
  have KC := Lib.hid (h2.reads KC.out (fun h ad e => H12.out _ (hKCH.out h ad e)))
  have KO := Lib.hid (h2.reads KO.out (fun h ad e => H12.out _ (hKOH.out h ad e)))
  have KI := Lib.hid (h2.reads KI.out (fun h ad e => H12.out _ (hKIH.out h ad e)))
  have KS := Lib.hid (h2.reads KS.out (fun h ad e => H12.out _ (hKSH.out h ad e)))
  have KW := Lib.hid (h2.reads KW.out (fun h ad e => H12.out _ (hKWH.out h ad e)))
  have KD := Lib.hid (h2.reads KD.out (fun h ad e => H12.out _ (hKDH.out h ad e)))
  clear h1 h2 hy
  have c7 := HX.out.cell 7
  have cb := HB.out.cell 0
  go_wp2_with fail
  refine (sh_ints H2 g y5 CA x.cut.length cc x.cut _ HP HS KC (Lib.hid (fun h ad e => H12.out _ (hKCH.out h ad e))) (Lib.hid rfl) (HO.out.cut).2 (Lib.hid (HO.out.cut).1) (by have := HL.out; omega)).mono ?_
  clear cb
  rintro e w6 ⟨rfl, h1, h2⟩
  clear c7
  obtain ⟨y6, hy⟩ : ∃ y, y5 ++ pList pInt x.cut = y := ⟨_, rfl⟩
  rw [hy] at h1
  have HL := Lib.hid (show y6.length + 24189725573180 ≤ 70000000000000 from by have h3 := HL.out; have h4 := pInts_len (x := x.cut) HO.out.cut; rw [← hy, List.length_append]; omega)
  have HY6 := Lib.hid hy
  have HP := Lib.hid h1
  have HS := Lib.hid (HS.out.keep h2)
  have HX := Lib.hid (h2.blk HX.out H2C.out)
  have HB := Lib.hid (h2.blk HB.out H2B.out)
  have OI := Lib.hid (fun m (hm : m ∈ os) => h2.reads (OI.out m hm) (fun h ad e => H12.out _ (hOIH.out m hm h ad e)))
  have II := Lib.hid (fun m (hm : m ∈ is) => h2.reads (II.out m hm) (fun h ad e => H12.out _ (hIIH.out m hm h ad e)))
  have HK := Lib.hid (HK.out.trans (h2.mono H12.out))
  have KM := Lib.hid (h2.reads KM.out (fun h ad e => H12.out _ (hKMH.out h ad e)))
  have KN := Lib.hid (h2.reads KN.out (fun h ad e => H12.out _ (hKNH.out h ad e)))
  have KC := Lib.hid (h2.reads KC.out (fun h ad e => H12.out _ (hKCH.out h ad e)))
  have KO := Lib.hid (h2.reads KO.out (fun h ad e => H12.out _ (hKOH.out h ad e)))
  have KI := Lib.hid (h2.reads KI.out (fun h ad e => H12.out _ (hKIH.out h ad e)))
  have KS := Lib.hid (h2.reads KS.out (fun h ad e => H12.out _ (hKSH.out h ad e)))
  have KW := Lib.hid (h2.reads KW.out (fun h ad e => H12.out _ (hKWH.out h ad e)))
  have KD := Lib.hid (h2.reads KD.out (fun h ad e => H12.out _ (hKDH.out h ad e)))
  clear h1 h2 hy
  have c8 := HX.out.cell 8
  have cb := HB.out.cell 0
  go_wp2_with fail
  refine (sh_objs H2 g y6 OA x.objs.length oc os _ HP HS KO (Lib.hid (fun h ad e => H12.out _ (hKOH.out h ad e))) (Lib.hid (by rw [← HOs.out, List.length_map])) HO.out.objs.2 (Lib.hid fun m hm => ⟨HO.out.objs.1 _ (by rw [← HOs.out]; exact List.mem_map.2 ⟨m, hm, rfl⟩), OI.out m hm, fun h ad e => H12.out _ (hOIH.out m hm h ad e)⟩) (by have := HL.out; omega)).mono ?_
  clear cb
  rintro e w7 ⟨rfl, h1, h2⟩
  rw [HOs.out] at h1
  clear c8
  obtain ⟨y7, hy⟩ : ∃ y, y6 ++ pList pObj x.objs = y := ⟨_, rfl⟩
  rw [hy] at h1
  have HL := Lib.hid (show y7.length + 12094925701170 ≤ 70000000000000 from by have h3 := HL.out; have h4 := pObjs_len (x := x.objs) HO.out.objs; rw [← hy, List.length_append]; omega)
  have HY7 := Lib.hid hy
  have HP := Lib.hid h1
  have HS := Lib.hid (HS.out.keep h2)
  have HX := Lib.hid (h2.blk HX.out H2C.out)
  have HB := Lib.hid (h2.blk HB.out H2B.out)
  have OI := Lib.hid (fun m (hm : m ∈ os) => h2.reads (OI.out m hm) (fun h ad e => H12.out _ (hOIH.out m hm h ad e)))
  have II := Lib.hid (fun m (hm : m ∈ is) => h2.reads (II.out m hm) (fun h ad e => H12.out _ (hIIH.out m hm h ad e)))
  have HK := Lib.hid (HK.out.trans (h2.mono H12.out))
  have KM := Lib.hid (h2.reads KM.out (fun h ad e => H12.out _ (hKMH.out h ad e)))
  have KN := Lib.hid (h2.reads KN.out (fun h ad e => H12.out _ (hKNH.out h ad e)))
  have KC := Lib.hid (h2.reads KC.out (fun h ad e => H12.out _ (hKCH.out h ad e)))
  have KO := Lib.hid (h2.reads KO.out (fun h ad e => H12.out _ (hKOH.out h ad e)))
  have KI := Lib.hid (h2.reads KI.out (fun h ad e => H12.out _ (hKIH.out h ad e)))
  have KS := Lib.hid (h2.reads KS.out (fun h ad e => H12.out _ (hKSH.out h ad e)))
  have KW := Lib.hid (h2.reads KW.out (fun h ad e => H12.out _ (hKWH.out h ad e)))
  have KD := Lib.hid (h2.reads KD.out (fun h ad e => H12.out _ (hKDH.out h ad e)))
  clear h1 h2 hy
  have c9 := HX.out.cell 9
  have cb := HB.out.cell 0
  go_wp2_with fail
  refine (sh_intents H2 g y7 IA x.ints.length ic is _ w.heap.size HB H2B HP HS KI (Lib.hid (fun h ad e => H12.out _ (hKIH.out h ad e))) (Lib.hid (by rw [← HIs.out, List.length_map])) HO.out.ints.2 (Lib.hid fun m hm => ⟨HO.out.ints.1 _ (by rw [← HIs.out]; exact List.mem_map.2 ⟨m, hm, rfl⟩), II.out m hm, fun h ad e => H12.out _ (hIIH.out m hm h ad e)⟩) (by have := HL.out; omega)).mono ?_
  clear cb
  rintro e w8 ⟨rfl, h1, h2⟩
  rw [HIs.out] at h1
  clear c9
  obtain ⟨y8, hy⟩ : ∃ y, y7 ++ pList pIntent x.ints = y := ⟨_, rfl⟩
  rw [hy] at h1
  have HL := Lib.hid (show y8.length + 104857640 ≤ 70000000000000 from by have h3 := HL.out; have h4 := pIntents_len (x := x.ints) HO.out.ints; rw [← hy, List.length_append]; omega)
  have HY8 := Lib.hid hy
  have HP := Lib.hid h1
  have HS := Lib.hid (HS.out.keep h2)
  have HX := Lib.hid (h2.blk HX.out H2C.out)
  have HB := Lib.hid (h2.blk HB.out H2B.out)
  have OI := Lib.hid (fun m (hm : m ∈ os) => h2.reads (OI.out m hm) (fun h ad e => H12.out _ (hOIH.out m hm h ad e)))
  have II := Lib.hid (fun m (hm : m ∈ is) => h2.reads (II.out m hm) (fun h ad e => H12.out _ (hIIH.out m hm h ad e)))
  have HK := Lib.hid (HK.out.trans (h2.mono H12.out))
  have KM := Lib.hid (h2.reads KM.out (fun h ad e => H12.out _ (hKMH.out h ad e)))
  have KN := Lib.hid (h2.reads KN.out (fun h ad e => H12.out _ (hKNH.out h ad e)))
  have KC := Lib.hid (h2.reads KC.out (fun h ad e => H12.out _ (hKCH.out h ad e)))
  have KO := Lib.hid (h2.reads KO.out (fun h ad e => H12.out _ (hKOH.out h ad e)))
  have KI := Lib.hid (h2.reads KI.out (fun h ad e => H12.out _ (hKIH.out h ad e)))
  have KS := Lib.hid (h2.reads KS.out (fun h ad e => H12.out _ (hKSH.out h ad e)))
  have KW := Lib.hid (h2.reads KW.out (fun h ad e => H12.out _ (hKWH.out h ad e)))
  have KD := Lib.hid (h2.reads KD.out (fun h ad e => H12.out _ (hKDH.out h ad e)))
  clear h1 h2 hy
  have c10 := HX.out.cell 10
  have cb := HB.out.cell 0
  go_wp2_with fail
  refine (sh_sessions H2 g y8 SA x.sess.length sc x.sess _ w.heap.size HB H2B HP HS KS (Lib.hid (fun h ad e => H12.out _ (hKSH.out h ad e))) (Lib.hid rfl) HO.out.sess.2 (Lib.hid HO.out.sess.1) (by have := HL.out; omega)).mono ?_
  clear cb
  rintro e w9 ⟨rfl, h1, h2⟩
  clear c10
  obtain ⟨y9, hy⟩ : ∃ y, y8 ++ pList pSes x.sess = y := ⟨_, rfl⟩
  rw [hy] at h1
  have HL := Lib.hid (show y9.length + 52428830 ≤ 70000000000000 from by have h3 := HL.out; have h4 := pSess_len (x := x.sess) HO.out.sess; rw [← hy, List.length_append]; omega)
  have HY9 := Lib.hid hy
  have HP := Lib.hid h1
  have HS := Lib.hid (HS.out.keep h2)
  have HX := Lib.hid (h2.blk HX.out H2C.out)
  have HB := Lib.hid (h2.blk HB.out H2B.out)
  have OI := Lib.hid (fun m (hm : m ∈ os) => h2.reads (OI.out m hm) (fun h ad e => H12.out _ (hOIH.out m hm h ad e)))
  have II := Lib.hid (fun m (hm : m ∈ is) => h2.reads (II.out m hm) (fun h ad e => H12.out _ (hIIH.out m hm h ad e)))
  have HK := Lib.hid (HK.out.trans (h2.mono H12.out))
  have KM := Lib.hid (h2.reads KM.out (fun h ad e => H12.out _ (hKMH.out h ad e)))
  have KN := Lib.hid (h2.reads KN.out (fun h ad e => H12.out _ (hKNH.out h ad e)))
  have KC := Lib.hid (h2.reads KC.out (fun h ad e => H12.out _ (hKCH.out h ad e)))
  have KO := Lib.hid (h2.reads KO.out (fun h ad e => H12.out _ (hKOH.out h ad e)))
  have KI := Lib.hid (h2.reads KI.out (fun h ad e => H12.out _ (hKIH.out h ad e)))
  have KS := Lib.hid (h2.reads KS.out (fun h ad e => H12.out _ (hKSH.out h ad e)))
  have KW := Lib.hid (h2.reads KW.out (fun h ad e => H12.out _ (hKWH.out h ad e)))
  have KD := Lib.hid (h2.reads KD.out (fun h ad e => H12.out _ (hKDH.out h ad e)))
  clear h1 h2 hy
  have c11 := HX.out.cell 11
  have cb := HB.out.cell 0
  go_wp2_with fail
  refine (sh_wastes H2 g y9 WA x.wass.length wc x.wass _ w.heap.size HB H2B HP HS KW (Lib.hid (fun h ad e => H12.out _ (hKWH.out h ad e))) (Lib.hid rfl) HO.out.wass.2 (Lib.hid HO.out.wass.1) (by have := HL.out; omega)).mono ?_
  clear cb
  rintro e w10 ⟨rfl, h1, h2⟩
  clear c11
  obtain ⟨y10, hy⟩ : ∃ y, y9 ++ pList pWas x.wass = y := ⟨_, rfl⟩
  rw [hy] at h1
  have HL := Lib.hid (show y10.length + 10485780 ≤ 70000000000000 from by have h3 := HL.out; have h4 := pWass_len (x := x.wass) HO.out.wass; rw [← hy, List.length_append]; omega)
  have HY10 := Lib.hid hy
  have HP := Lib.hid h1
  have HS := Lib.hid (HS.out.keep h2)
  have HX := Lib.hid (h2.blk HX.out H2C.out)
  have HB := Lib.hid (h2.blk HB.out H2B.out)
  have OI := Lib.hid (fun m (hm : m ∈ os) => h2.reads (OI.out m hm) (fun h ad e => H12.out _ (hOIH.out m hm h ad e)))
  have II := Lib.hid (fun m (hm : m ∈ is) => h2.reads (II.out m hm) (fun h ad e => H12.out _ (hIIH.out m hm h ad e)))
  have HK := Lib.hid (HK.out.trans (h2.mono H12.out))
  have KM := Lib.hid (h2.reads KM.out (fun h ad e => H12.out _ (hKMH.out h ad e)))
  have KN := Lib.hid (h2.reads KN.out (fun h ad e => H12.out _ (hKNH.out h ad e)))
  have KC := Lib.hid (h2.reads KC.out (fun h ad e => H12.out _ (hKCH.out h ad e)))
  have KO := Lib.hid (h2.reads KO.out (fun h ad e => H12.out _ (hKOH.out h ad e)))
  have KI := Lib.hid (h2.reads KI.out (fun h ad e => H12.out _ (hKIH.out h ad e)))
  have KS := Lib.hid (h2.reads KS.out (fun h ad e => H12.out _ (hKSH.out h ad e)))
  have KW := Lib.hid (h2.reads KW.out (fun h ad e => H12.out _ (hKWH.out h ad e)))
  have KD := Lib.hid (h2.reads KD.out (fun h ad e => H12.out _ (hKDH.out h ad e)))
  clear h1 h2 hy
  have c12 := HX.out.cell 12
  have cb := HB.out.cell 0
  go_wp2_with fail
  refine (sh_ints H2 g y10 DA x.down.length dc x.down _ HP HS KD (Lib.hid (fun h ad e => H12.out _ (hKDH.out h ad e))) (Lib.hid rfl) (HO.out.down).2 (Lib.hid (HO.out.down).1) (by have := HL.out; omega)).mono ?_
  clear cb
  rintro e w11 ⟨rfl, h1, h2⟩
  clear c12
  obtain ⟨y11, hy⟩ : ∃ y, y10 ++ pList pInt x.down = y := ⟨_, rfl⟩
  rw [hy] at h1
  have HL := Lib.hid (show y11.length + 10 ≤ 70000000000000 from by have h3 := HL.out; have h4 := pInts_len (x := x.down) HO.out.down; rw [← hy, List.length_append]; omega)
  have HY11 := Lib.hid hy
  have HP := Lib.hid h1
  have HS := Lib.hid (HS.out.keep h2)
  have HX := Lib.hid (h2.blk HX.out H2C.out)
  have HB := Lib.hid (h2.blk HB.out H2B.out)
  have OI := Lib.hid (fun m (hm : m ∈ os) => h2.reads (OI.out m hm) (fun h ad e => H12.out _ (hOIH.out m hm h ad e)))
  have II := Lib.hid (fun m (hm : m ∈ is) => h2.reads (II.out m hm) (fun h ad e => H12.out _ (hIIH.out m hm h ad e)))
  have HK := Lib.hid (HK.out.trans (h2.mono H12.out))
  have KM := Lib.hid (h2.reads KM.out (fun h ad e => H12.out _ (hKMH.out h ad e)))
  have KN := Lib.hid (h2.reads KN.out (fun h ad e => H12.out _ (hKNH.out h ad e)))
  have KC := Lib.hid (h2.reads KC.out (fun h ad e => H12.out _ (hKCH.out h ad e)))
  have KO := Lib.hid (h2.reads KO.out (fun h ad e => H12.out _ (hKOH.out h ad e)))
  have KI := Lib.hid (h2.reads KI.out (fun h ad e => H12.out _ (hKIH.out h ad e)))
  have KS := Lib.hid (h2.reads KS.out (fun h ad e => H12.out _ (hKSH.out h ad e)))
  have KW := Lib.hid (h2.reads KW.out (fun h ad e => H12.out _ (hKWH.out h ad e)))
  have KD := Lib.hid (h2.reads KD.out (fun h ad e => H12.out _ (hKDH.out h ad e)))
  clear h1 h2 hy
  have c13 := HX.out.cell 13
  have cb := HB.out.cell 0
  go_wp2_with fail
  refine (sh_number H2 g y11 x.last _ HP HS HO.out.last (by have := HL.out; omega)).mono ?_
  clear cb
  rintro e w12 ⟨rfl, h1, h2⟩
  clear c13
  obtain ⟨y12, hy⟩ : ∃ y, y11 ++ putN x.last = y := ⟨_, rfl⟩
  rw [hy] at h1
  have HL := Lib.hid (show y12.length + 0 ≤ 70000000000000 from by have h3 := HL.out; have h4 := putN_len10 (n := x.last) HO.out.last; rw [← hy, List.length_append]; omega)
  have HY12 := Lib.hid hy
  have HP := Lib.hid h1
  have HS := Lib.hid (HS.out.keep h2)
  have HX := Lib.hid (h2.blk HX.out H2C.out)
  have HB := Lib.hid (h2.blk HB.out H2B.out)
  have OI := Lib.hid (fun m (hm : m ∈ os) => h2.reads (OI.out m hm) (fun h ad e => H12.out _ (hOIH.out m hm h ad e)))
  have II := Lib.hid (fun m (hm : m ∈ is) => h2.reads (II.out m hm) (fun h ad e => H12.out _ (hIIH.out m hm h ad e)))
  have HK := Lib.hid (HK.out.trans (h2.mono H12.out))
  have KM := Lib.hid (h2.reads KM.out (fun h ad e => H12.out _ (hKMH.out h ad e)))
  have KN := Lib.hid (h2.reads KN.out (fun h ad e => H12.out _ (hKNH.out h ad e)))
  have KC := Lib.hid (h2.reads KC.out (fun h ad e => H12.out _ (hKCH.out h ad e)))
  have KO := Lib.hid (h2.reads KO.out (fun h ad e => H12.out _ (hKOH.out h ad e)))
  have KI := Lib.hid (h2.reads KI.out (fun h ad e => H12.out _ (hKIH.out h ad e)))
  have KS := Lib.hid (h2.reads KS.out (fun h ad e => H12.out _ (hKSH.out h ad e)))
  have KW := Lib.hid (h2.reads KW.out (fun h ad e => H12.out _ (hKWH.out h ad e)))
  have KD := Lib.hid (h2.reads KD.out (fun h ad e => H12.out _ (hKDH.out h ad e)))
  clear h1 h2 hy
  go_wp2
  go_end0
  have hz : xs ++ pMet x = y12 := by
    rw [← HY12.out, ← HY11.out, ← HY10.out, ← HY9.out, ← HY8.out, ← HY7.out, ← HY6.out, ← HY5.out, ← HY4.out, ← HY3.out, ← HY2.out, ← HY1.out]
    unfold pMet
    simp only [List.append_assoc]
  rw [hz]
  exact ⟨rfl, HP.out.mono (fun k hk => .inl (H12.out k hk)), HK.out⟩
end Go.Proofs.YthgiafjiemiifaaGreat
end
