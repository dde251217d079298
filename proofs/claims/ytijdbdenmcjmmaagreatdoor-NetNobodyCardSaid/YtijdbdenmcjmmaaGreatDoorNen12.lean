/-
  THE PROGRAM'S READERS, exported. (printed by gen_pag3.py); WHAT IS READ IS WHAT ITS WRITER PUTS: plain. (printed by gen_paw1.py). (joined out of PaG3, PaW1 by shake.py)
-/
import Derived.Test.YtijdbdenmcjmmaaGreatDoorNen11
import Derived.Test.YtijdbdenmcjmmaaGreatDoorNen07
import Derived.Test.YtijdbdenmcjmmaaGreatDoorNen04
import Derived.Test.YtijdbdenmcjmmaaGreatDoorNen01
section
namespace Go.Proofs.YtijdbdenmcjmmaaGreatDoor
open Go.RowKit OctMath
set_option linter.unusedVariables false
set_option linter.unusedSimpArgs false
theorem InB.later {w w' : World} {A : Option Addr} {n cap : Nat} {bs : List Nat} (h : InB w A n cap bs) (hb : Below w.heap.size w w') : InB w' A n cap bs := ⟨h.rd.later hb, h.byt, h.len, h.le, h.mx, h.reach⟩
section
variable {P : Program} {fn : Func} {tmps : Array Value} {a b c : Nat} {ty : TypeId} {p : Addr} {u v z : Value} {w : World}
theorem res_ctt (hr : fn.results = #[.cell a ty, .tmp b, .tmp c]) (ha : tmps.getD a undef = .pointer (some p)) (hb : tmps.getD b undef = v) (hc : tmps.getD c undef = z) (hl : (loadVar ty p).run P w = .ok u w) :
    (results fn tmps).run P w = .ok (.tuple #[u, v, z]) w := by
  simp only [Array.getD_eq_getD_getElem?] at ha hb hc
  simp [results, hr, ha, hb, hc, asAddr, hl]
end
set_option maxRecDepth 100000 in
set_option maxHeartbeats 2000000 in
theorem hd_read (A : Option Addr) (n cap : Nat) (bs : List Nat) (p : Nat) (w : World) (HI : Hid (InB w A n cap bs)) (hp : p ≤ n) :
    Calls Tryz.prog 29 #[.slice A n cap, .int .i64 (p : Int)] w (RetG (rHd bs p) vHd (.agg #[.int .u64 0, .int .i64 0, .int .u64 0, .int .i64 0, .int .i64 0, .int .i64 0, .int .u32 0]) w) := by
  have hx := Blk.new w 32 #[.int .u64 0, .int .i64 0, .int .u64 0, .int .i64 0, .int .i64 0, .int .i64 0, .int .u32 0]
  have hb0 := (Below.refl w.heap.size w).alloc (Nat.le_refl _) (.cells #[.int .u64 0, .int .i64 0, .int .u64 0, .int .i64 0, .int .i64 0, .int .i64 0, .int .u32 0] 32)
  obtain ⟨w0, ew0⟩ : ∃ w0, w.alloc (.cells #[.int .u64 0, .int .i64 0, .int .u64 0, .int .i64 0, .int .i64 0, .int .i64 0, .int .u32 0] 32) = w0 := ⟨_, rfl⟩
  rw [ew0] at hx hb0
  have HX := Lh hx
  have HB0 := Lh hb0
  clear hx hb0
  go_enter Tryz.func29, Tryz.ntmps29
  go_wp2_with fail
  clear ew0
  refine (hd_got A n cap bs p w0 (Lh (HI.out.later HB0.out)) hp).mono ?_
  have HX0 := Lh HX.out.lt
  cases hr : rHd bs p with
  | none =>
    rintro e w1 ⟨hb, rfl⟩
    have HX := Lh (HX.out.below hb HX.out.lt)
    have HB := Lh (HB0.out.trans (hb.mono HB0.out.size))
    clear hb
    go_wp2_with (refine wpl_store_blk rfl 32 (.tmp 4) (.tmp 10) rfl w.heap.size 32 #[.int .u64 0, .int .i64 0, .int .u64 0, .int .i64 0, .int .i64 0, .int .i64 0, .int .u32 0] #[.int .u64 0, .int .i64 0, .int .u64 0, .int .i64 0, .int .i64 0, .int .i64 0, .int .u32 0] rfl rfl HX.out rfl Tryz.sizeH rfl ?_; intro w2 hB hO)
    refine bodyPost_ret (v := .tuple #[.agg #[.int .u64 0, .int .i64 0, .int .u64 0, .int .i64 0, .int .i64 0, .int .i64 0, .int .u32 0], .int .i64 0, .int .i64 50]) (res_ctt Tryz.results29 rfl rfl rfl (load_blk hB.out Tryz.underlying32 rfl Tryz.sizeH)) rfl ?_
    have HB := HB.out.trans (hO.out.below (Nat.le_refl _))
    rw [hr]
    exact ⟨HB, rfl⟩
  | some x =>
    obtain ⟨x1, q1⟩ := x
    rintro e w1 ⟨hb, v, rfl, ⟨rfl, b1⟩⟩
    have HX := Lh (HX.out.below hb HX.out.lt)
    have HB := Lh (HB0.out.trans (hb.mono HB0.out.size))
    clear hb
    go_wp2_with (refine wpl_store_blk rfl 32 (.tmp 4) (.tmp 10) rfl w.heap.size 32 #[.int .u64 0, .int .i64 0, .int .u64 0, .int .i64 0, .int .i64 0, .int .i64 0, .int .u32 0] #[.int .u64 (x1.id.ver : Int), .int .i64 x1.id.idx, .int .u64 (x1.id.ep : Int), .int .i64 x1.k, .int .i64 x1.n, .int .i64 x1.size, .int .u32 (x1.sum : Int)] rfl rfl HX.out rfl Tryz.sizeH rfl ?_; intro w2 hB hO)
    refine bodyPost_ret (v := .tuple #[.agg #[.int .u64 (x1.id.ver : Int), .int .i64 x1.id.idx, .int .u64 (x1.id.ep : Int), .int .i64 x1.k, .int .i64 x1.n, .int .i64 x1.size, .int .u32 (x1.sum : Int)], .int .i64 (q1 : Int), .int .i64 0]) (res_ctt Tryz.results29 rfl rfl rfl (load_blk hB.out Tryz.underlying32 rfl Tryz.sizeH)) rfl ?_
    have HB := HB.out.trans (hO.out.below (Nat.le_refl _))
    rw [hr]
    exact ⟨HB, _, rfl, ⟨rfl, b1⟩⟩
set_option maxRecDepth 100000 in
set_option maxHeartbeats 2000000 in
theorem conf_read (A : Option Addr) (n cap : Nat) (bs : List Nat) (p : Nat) (w : World) (HI : Hid (InB w A n cap bs)) (hp : p ≤ n) :
    Calls Tryz.prog 27 #[.slice A n cap, .int .i64 (p : Int)] w (RetG (rConf bs p) (vConf w.heap.size) (.agg #[.slice none 0 0, .slice none 0 0]) w) := by
  have hx := Blk.new w 27 #[.slice none 0 0, .slice none 0 0]
  have hb0 := (Below.refl w.heap.size w).alloc (Nat.le_refl _) (.cells #[.slice none 0 0, .slice none 0 0] 27)
  obtain ⟨w0, ew0⟩ : ∃ w0, w.alloc (.cells #[.slice none 0 0, .slice none 0 0] 27) = w0 := ⟨_, rfl⟩
  rw [ew0] at hx hb0
  have HX := Lh hx
  have HB0 := Lh hb0
  clear hx hb0
  go_enter Tryz.func27, Tryz.ntmps27
  go_wp2_with fail
  clear ew0
  refine (conf_got A n cap bs p w0 (Lh (HI.out.later HB0.out)) hp).mono ?_
  have HX0 := Lh HX.out.lt
  cases hr : rConf bs p with
  | none =>
    rintro e w1 ⟨hb, rfl⟩
    have HX := Lh (HX.out.below hb HX.out.lt)
    have HB := Lh (HB0.out.trans (hb.mono HB0.out.size))
    clear hb
    go_wp2_with (refine wpl_store_blk rfl 27 (.tmp 4) (.tmp 10) rfl w.heap.size 27 #[.slice none 0 0, .slice none 0 0] #[.slice none 0 0, .slice none 0 0] rfl rfl HX.out rfl Tryz.sizeF rfl ?_; intro w2 hB hO)
    refine bodyPost_ret (v := .tuple #[.agg #[.slice none 0 0, .slice none 0 0], .int .i64 0, .int .i64 50]) (res_ctt Tryz.results27 rfl rfl rfl (load_blk hB.out Tryz.underlying27 rfl Tryz.sizeF)) rfl ?_
    have HB := HB.out.trans (hO.out.below (Nat.le_refl _))
    rw [hr]
    exact ⟨HB, rfl⟩
  | some x =>
    obtain ⟨x1, q1⟩ := x
    rintro e w1 ⟨hb, v, rfl, ⟨A1, c1, A2, c2, rfl, l1, l2, b1, b2⟩⟩
    have HX := Lh (HX.out.below hb HX.out.lt)
    have HB := Lh (HB0.out.trans (hb.mono HB0.out.size))
    have L1 := Lh l1
    clear l1
    have L2 := Lh l2
    clear l2
    clear hb
    go_wp2_with (refine wpl_store_blk rfl 27 (.tmp 4) (.tmp 10) rfl w.heap.size 27 #[.slice none 0 0, .slice none 0 0] #[.slice A1 x1.1.length c1, .slice A2 x1.2.length c2] rfl rfl HX.out rfl Tryz.sizeF rfl ?_; intro w2 hB hO)
    refine bodyPost_ret (v := .tuple #[.agg #[.slice A1 x1.1.length c1, .slice A2 x1.2.length c2], .int .i64 (q1 : Int), .int .i64 0]) (res_ctt Tryz.results27 rfl rfl rfl (load_blk hB.out Tryz.underlying27 rfl Tryz.sizeF)) rfl ?_
    have HB := HB.out.trans (hO.out.below (Nat.le_refl _))
    have L1 := Lh (L1.out.only hO.out (L1.out.apart_lo HX0.out))
    have L2 := Lh (L2.out.only hO.out (L2.out.apart_lo HX0.out))
    rw [hr]
    exact ⟨HB, _, rfl, ⟨A1, c1, A2, c2, rfl, L1.out.mono (by have := HB0.out.size; omega), L2.out.mono (by have := HB0.out.size; omega), b1, b2⟩⟩
set_option maxRecDepth 100000 in
set_option maxHeartbeats 2000000 in
theorem ent_read (A : Option Addr) (n cap : Nat) (bs : List Nat) (p : Nat) (w : World) (HI : Hid (InB w A n cap bs)) (hp : p ≤ n) :
    Calls Tryz.prog 25 #[.slice A n cap, .int .i64 (p : Int)] w (RetG (rEnt bs p) (vEnt w.heap.size) (.agg #[.int .u64 0, .int .u64 0, .int .i64 0, .int .i64 0, .int .u64 0, .int .u64 0, .string ⟨#[]⟩, .int .i64 0, .int .u32 0, .int .u64 0, .int .u64 0, .int .i64 0, .int .i64 0, .bool false, .int .u64 0, .int .i64 0, .int .u64 0, .int .u64 0, .slice none 0 0, .slice none 0 0, .slice none 0 0]) w) := by
  have hx := Blk.new w 86 #[.int .u64 0, .int .u64 0, .int .i64 0, .int .i64 0, .int .u64 0, .int .u64 0, .string ⟨#[]⟩, .int .i64 0, .int .u32 0, .int .u64 0, .int .u64 0, .int .i64 0, .int .i64 0, .bool false, .int .u64 0, .int .i64 0, .int .u64 0, .int .u64 0, .slice none 0 0, .slice none 0 0, .slice none 0 0]
  have hb0 := (Below.refl w.heap.size w).alloc (Nat.le_refl _) (.cells #[.int .u64 0, .int .u64 0, .int .i64 0, .int .i64 0, .int .u64 0, .int .u64 0, .string ⟨#[]⟩, .int .i64 0, .int .u32 0, .int .u64 0, .int .u64 0, .int .i64 0, .int .i64 0, .bool false, .int .u64 0, .int .i64 0, .int .u64 0, .int .u64 0, .slice none 0 0, .slice none 0 0, .slice none 0 0] 86)
  obtain ⟨w0, ew0⟩ : ∃ w0, w.alloc (.cells #[.int .u64 0, .int .u64 0, .int .i64 0, .int .i64 0, .int .u64 0, .int .u64 0, .string ⟨#[]⟩, .int .i64 0, .int .u32 0, .int .u64 0, .int .u64 0, .int .i64 0, .int .i64 0, .bool false, .int .u64 0, .int .i64 0, .int .u64 0, .int .u64 0, .slice none 0 0, .slice none 0 0, .slice none 0 0] 86) = w0 := ⟨_, rfl⟩
  rw [ew0] at hx hb0
  have HX := Lh hx
  have HB0 := Lh hb0
  clear hx hb0
  go_enter Tryz.func25, Tryz.ntmps25
  go_wp2_with fail
  clear ew0
  refine (ent_got A n cap bs p w0 (Lh (HI.out.later HB0.out)) hp).mono ?_
  have HX0 := Lh HX.out.lt
  cases hr : rEnt bs p with
  | none =>
    rintro e w1 ⟨hb, rfl⟩
    have HX := Lh (HX.out.below hb HX.out.lt)
    have HB := Lh (HB0.out.trans (hb.mono HB0.out.size))
    clear hb
    go_wp2_with (refine wpl_store_blk rfl 86 (.tmp 4) (.tmp 10) rfl w.heap.size 86 #[.int .u64 0, .int .u64 0, .int .i64 0, .int .i64 0, .int .u64 0, .int .u64 0, .string ⟨#[]⟩, .int .i64 0, .int .u32 0, .int .u64 0, .int .u64 0, .int .i64 0, .int .i64 0, .bool false, .int .u64 0, .int .i64 0, .int .u64 0, .int .u64 0, .slice none 0 0, .slice none 0 0, .slice none 0 0] #[.int .u64 0, .int .u64 0, .int .i64 0, .int .i64 0, .int .u64 0, .int .u64 0, .string ⟨#[]⟩, .int .i64 0, .int .u32 0, .int .u64 0, .int .u64 0, .int .i64 0, .int .i64 0, .bool false, .int .u64 0, .int .i64 0, .int .u64 0, .int .u64 0, .slice none 0 0, .slice none 0 0, .slice none 0 0] rfl rfl HX.out rfl Tryz.sizeE rfl ?_; intro w2 hB hO)
    refine bodyPost_ret (v := .tuple #[.agg #[.int .u64 0, .int .u64 0, .int .i64 0, .int .i64 0, .int .u64 0, .int .u64 0, .string ⟨#[]⟩, .int .i64 0, .int .u32 0, .int .u64 0, .int .u64 0, .int .i64 0, .int .i64 0, .bool false, .int .u64 0, .int .i64 0, .int .u64 0, .int .u64 0, .slice none 0 0, .slice none 0 0, .slice none 0 0], .int .i64 0, .int .i64 50]) (res_ctt Tryz.results25 rfl rfl rfl (load_blk hB.out Tryz.underlying86 rfl Tryz.sizeE)) rfl ?_
    have HB := HB.out.trans (hO.out.below (Nat.le_refl _))
    rw [hr]
    exact ⟨HB, rfl⟩
  | some x =>
    obtain ⟨x1, q1⟩ := x
    rintro e w1 ⟨hb, v, rfl, ⟨A1, c1, A2, c2, A3, c3, rfl, l1, l2, l3, b1⟩⟩
    have HX := Lh (HX.out.below hb HX.out.lt)
    have HB := Lh (HB0.out.trans (hb.mono HB0.out.size))
    have L1 := Lh l1
    clear l1
    have L2 := Lh l2
    clear l2
    have L3 := Lh l3
    clear l3
    clear hb
    go_wp2_with (refine wpl_store_blk rfl 86 (.tmp 4) (.tmp 10) rfl w.heap.size 86 #[.int .u64 0, .int .u64 0, .int .i64 0, .int .i64 0, .int .u64 0, .int .u64 0, .string ⟨#[]⟩, .int .i64 0, .int .u32 0, .int .u64 0, .int .u64 0, .int .i64 0, .int .i64 0, .bool false, .int .u64 0, .int .i64 0, .int .u64 0, .int .u64 0, .slice none 0 0, .slice none 0 0, .slice none 0 0] (entCs x1 A1 c1 A2 c2 A3 c3) rfl rfl HX.out rfl Tryz.sizeE rfl ?_; intro w2 hB hO)
    refine bodyPost_ret (v := .tuple #[.agg (entCs x1 A1 c1 A2 c2 A3 c3), .int .i64 (q1 : Int), .int .i64 0]) (res_ctt Tryz.results25 rfl rfl rfl (load_blk hB.out Tryz.underlying86 rfl Tryz.sizeE)) rfl ?_
    have HB := HB.out.trans (hO.out.below (Nat.le_refl _))
    have L1 := Lh (L1.out.only hO.out (L1.out.apart_lo HX0.out))
    have L2 := Lh (L2.out.only hO.out (L2.out.apart_lo HX0.out))
    have L3 := Lh (L3.out.only hO.out (L3.out.apart_lo HX0.out))
    rw [hr]
    exact ⟨HB, _, rfl, ⟨A1, c1, A2, c2, A3, c3, rfl, L1.out.mono (by have := HB0.out.size; omega), L2.out.mono (by have := HB0.out.size; omega), L3.out.mono (by have := HB0.out.size; omega), b1⟩⟩
end Go.Proofs.YtijdbdenmcjmmaaGreatDoor
end
section
namespace Go.Proofs.YtijdbdenmcjmmaaGreatDoor
open OctMath
set_option linter.unusedVariables false
set_option linter.unusedSimpArgs false
theorem Wrote.step {α β : Type} {bs : List Nat} {r : Rd α} {f : α → Rd β} {put : α → List Nat} (h : Wrote bs r put) {at_ q : Nat} {y : β} (e : r.bind f at_ = some (y, q)) (hl : at_ ≤ bs.length) :
    ∃ x p, r at_ = some (x, p) ∧ f x p = some (y, q) ∧ at_ ≤ p ∧ p ≤ bs.length ∧ (bs.drop at_).take (p - at_) = put x := by
  cases h1 : r at_ with
  | none => rw [Rd.bind_none h1] at e; cases e
  | some v =>
    obtain ⟨x, p⟩ := v
    rw [Rd.bind_some h1] at e
    obtain ⟨a1, a2, a3⟩ := h.rd at_ x p h1 hl
    exact ⟨x, p, rfl, e, a1, a2, a3⟩
def pInt (x : Int) : List Nat := putN (zz x)
def pFlag (b : Bool) : List Nat := [if b then 1 else 0]
def pText (xs : List Nat) : List Nat := putN xs.length ++ xs
def pList {α : Type} (put : α → List Nat) (l : List α) : List Nat := putN l.length ++ l.flatMap put
def pMem (x : Int × Int) : List Nat := pInt x.1 ++ pInt x.2
def pMap (x : Nat × List (Int × Int)) : List Nat := putN x.1 ++ pList pMem x.2
def pConf (x : List Int × List Int) : List Nat := pList pInt x.1 ++ pList pInt x.2
def pId (d : IdT) : List Nat := putN d.ver ++ (pInt d.idx ++ putN d.ep)
def pHd (h : HdT) : List Nat := pId h.id ++ (pInt h.k ++ (pInt h.n ++ (pInt h.size ++ putN h.sum)))
def pCmd (c : CmdT) : List Nat := pInt c.kind ++ (putN c.client ++ (putN c.seq ++ (pText c.key ++ (pInt c.size ++ (putN c.sum ++ (putN c.version ++ (putN c.epoch ++ (pInt c.group ++ (pInt c.node ++ (pFlag c.up ++ (pId c.id ++ pMap (c.mep, c.mem))))))))))))
def pEnt (e : EntT) : List Nat := putN e.index ++ (putN e.term ++ (pInt e.kind ++ (pCmd e.cmd ++ pConf (e.voters, e.learners))))
theorem wr_num {bs : List Nat} (hb : Byt bs) : Wrote bs (rNum bs) putN := by
  refine ⟨fun at_ x p h hl => ?_⟩
  unfold rNum at h
  split at h
  · rename_i he
    obtain ⟨k, e1, e2, e3, e4⟩ := rdN_one bs at_ hb he
    obtain rfl : at_ = k := by omega
    rw [e2] at h
    simp only [Option.some.injEq, Prod.mk.injEq] at h
    obtain ⟨rfl, rfl⟩ := h
    refine ⟨by omega, by omega, ?_⟩
    rw [show ((at_ + (putN (rdN bs at_).1).length : Nat) : Int).toNat - at_ = (putN (rdN bs at_).1).length by omega]
    exact e4
  · cases h
theorem wr_int {bs : List Nat} (hb : Byt bs) : Wrote bs (rInt bs) pInt := by
  refine ⟨fun at_ x p h hl => ?_⟩
  unfold rInt at h
  cases h1 : rNum bs at_ with
  | none => rw [h1] at h; cases h
  | some v =>
    obtain ⟨n, q⟩ := v
    rw [h1] at h
    simp only [Option.map_some, Option.some.injEq, Prod.mk.injEq] at h
    obtain ⟨rfl, rfl⟩ := h
    have := (wr_num hb).rd at_ n q h1 hl
    unfold pInt
    rw [zz_unz]
    exact this
theorem wr_word {bs : List Nat} (hb : Byt bs) : Wrote bs (rWord bs) putN := by
  refine ⟨fun at_ x p h hl => ?_⟩
  unfold rWord at h
  cases h1 : rNum bs at_ with
  | none => rw [h1] at h; cases h
  | some v =>
    obtain ⟨n, q⟩ := v
    rw [h1] at h
    simp only at h
    split at h
    · cases h; exact (wr_num hb).rd at_ _ _ h1 hl
    · cases h
theorem wr_flag {bs : List Nat} (hb : Byt bs) : Wrote bs (rFlag bs) pFlag := by
  refine ⟨fun at_ x p h hl => ?_⟩
  unfold rFlag at h
  split at h
  · rename_i hc
    obtain ⟨c1, c2⟩ := hc
    simp only [Option.some.injEq, Prod.mk.injEq] at h
    obtain ⟨rfl, rfl⟩ := h
    refine ⟨by omega, by omega, ?_⟩
    rw [show at_ + 1 - at_ = 1 by omega]
    have hd : bs.drop at_ = bs.getD at_ 0 :: bs.drop (at_ + 1) := by
      rw [List.drop_eq_getElem_cons c1]
      congr 1
      rw [List.getD_eq_getElem?_getD, List.getElem?_eq_getElem c1]; rfl
    rw [hd]
    generalize bs.getD at_ 0 = v at *
    unfold pFlag
    have : v = 0 ∨ v = 1 := by omega
    rcases this with rfl | rfl <;> simp
  · cases h
theorem wr_text {bs : List Nat} (hb : Byt bs) : Wrote bs (rText bs) pText := by
  refine ⟨fun at_ x p h hl => ?_⟩
  unfold rText at h
  split at h
  · rename_i he
    obtain ⟨k, e1, e2, e3, e4⟩ := rdB_one bs at_ 1048576 hb he
    generalize rdB bs at_ 1048576 = r at *
    obtain ⟨v, q, er⟩ := r
    simp only at h e2 e3 e4
    obtain rfl : at_ = k := by omega
    rw [e2] at h
    simp only [Option.some.injEq, Prod.mk.injEq] at h
    obtain ⟨rfl, rfl⟩ := h
    refine ⟨by omega, by omega, ?_⟩
    rw [show ((at_ + (putN v.length ++ v).length : Nat) : Int).toNat - at_ = (putN v.length ++ v).length by omega]
    exact e4
  · cases h
theorem wr_times {α : Type} {bs : List Nat} {one : Rd α} {put : α → List Nat} (h : Wrote bs one put) : ∀ k, Wrote bs (rTimes one k) (fun l => l.flatMap put)
  | 0 => ⟨fun at_ x p e hl => by cases e; exact ⟨Nat.le_refl _, hl, by simp⟩⟩
  | k + 1 => ⟨fun at_ y q e hl => by
    have e' : (rTimes one k).bind (fun l => one.bind fun x => Rd.pure (l ++ [x])) at_ = some (y, q) := e
    obtain ⟨l, p, -, e1, a1, a2, a3⟩ := (wr_times h k).step e' hl
    obtain ⟨x, r, -, e2, b1, b2, b3⟩ := h.step e1 a2
    cases e2
    exact ⟨by omega, b2, by rw [take_join bs a1 b1, a3, b3]; simp⟩⟩
theorem times_len {α : Type} {one : Rd α} {p k : Nat} : ∀ {q : Nat} {l : List α}, rTimes one k p = some (l, q) → l.length = k := by
  induction k with
  | zero => intro q l h; cases h; rfl
  | succ k ih =>
    intro q l h
    have h' : (rTimes one k).bind (fun l => one.bind fun x => Rd.pure (l ++ [x])) p = some (l, q) := h
    cases h1 : rTimes one k p with
    | none => rw [Rd.bind_none h1] at h'; cases h'
    | some v =>
      obtain ⟨l1, q1⟩ := v
      rw [Rd.bind_some h1] at h'
      cases h2 : one q1 with
      | none => rw [Rd.bind_none h2] at h'; cases h'
      | some v =>
        obtain ⟨x, q2⟩ := v
        rw [Rd.bind_some h2] at h'
        cases h'
        rw [List.length_append, ih h1]; rfl
theorem wr_list {α : Type} {bs : List Nat} (hb : Byt bs) {one : Rd α} {put : α → List Nat} (h : Wrote bs one put) : Wrote bs (rList bs one) (pList put) := by
  refine ⟨fun at_ y q e hl => ?_⟩
  unfold rList at e
  obtain ⟨n, p, -, e1, a1, a2, a3⟩ := (wr_num hb).step e hl
  split at e1
  · cases e1
  · obtain ⟨b1, b2, b3⟩ := (wr_times h n).rd p y q e1 a2
    refine ⟨by omega, b2, ?_⟩
    unfold pList
    rw [take_join bs a1 b1, a3, b3, times_len e1]
theorem wr_mem {bs : List Nat} (hb : Byt bs) : Wrote bs (rMem bs) pMem := by
  refine ⟨fun at_ y q e hl => ?_⟩
  unfold rMem at e
  obtain ⟨x1, q1, -, e, a1, b1, s1⟩ := (wr_int hb).step e hl
  obtain ⟨x2, q2, -, e, a2, b2, s2⟩ := (wr_int hb).step e b1
  cases e
  refine ⟨by omega, by omega, ?_⟩
  rw [take_join bs (a := at_) (p := q1) (q := q) (by omega) (by omega), s1]
  rw [s2]
  simp only [pMem, List.append_assoc]
theorem wr_map {bs : List Nat} (hb : Byt bs) : Wrote bs (rMap bs) pMap := by
  refine ⟨fun at_ y q e hl => ?_⟩
  unfold rMap at e
  obtain ⟨x1, q1, -, e, a1, b1, s1⟩ := (wr_num hb).step e hl
  obtain ⟨x2, q2, -, e, a2, b2, s2⟩ := (wr_list hb (wr_mem hb)).step e b1
  cases e
  refine ⟨by omega, by omega, ?_⟩
  rw [take_join bs (a := at_) (p := q1) (q := q) (by omega) (by omega), s1]
  rw [s2]
  simp only [pMap, List.append_assoc]
theorem wr_conf {bs : List Nat} (hb : Byt bs) : Wrote bs (rConf bs) pConf := by
  refine ⟨fun at_ y q e hl => ?_⟩
  unfold rConf at e
  obtain ⟨x1, q1, -, e, a1, b1, s1⟩ := (wr_list hb (wr_int hb)).step e hl
  obtain ⟨x2, q2, -, e, a2, b2, s2⟩ := (wr_list hb (wr_int hb)).step e b1
  cases e
  refine ⟨by omega, by omega, ?_⟩
  rw [take_join bs (a := at_) (p := q1) (q := q) (by omega) (by omega), s1]
  rw [s2]
  simp only [pConf, List.append_assoc]
theorem wr_id {bs : List Nat} (hb : Byt bs) : Wrote bs (rId bs) pId := by
  refine ⟨fun at_ y q e hl => ?_⟩
  unfold rId at e
  obtain ⟨x1, q1, -, e, a1, b1, s1⟩ := (wr_num hb).step e hl
  obtain ⟨x2, q2, -, e, a2, b2, s2⟩ := (wr_int hb).step e b1
  obtain ⟨x3, q3, -, e, a3, b3, s3⟩ := (wr_num hb).step e b2
  cases e
  refine ⟨by omega, by omega, ?_⟩
  rw [take_join bs (a := at_) (p := q1) (q := q) (by omega) (by omega), s1]
  rw [take_join bs (a := q1) (p := q2) (q := q) (by omega) (by omega), s2]
  rw [s3]
  simp only [pId, List.append_assoc]
theorem wr_hd {bs : List Nat} (hb : Byt bs) : Wrote bs (rHd bs) pHd := by
  refine ⟨fun at_ y q e hl => ?_⟩
  unfold rHd at e
  obtain ⟨x1, q1, -, e, a1, b1, s1⟩ := (wr_id hb).step e hl
  obtain ⟨x2, q2, -, e, a2, b2, s2⟩ := (wr_int hb).step e b1
  obtain ⟨x3, q3, -, e, a3, b3, s3⟩ := (wr_int hb).step e b2
  obtain ⟨x4, q4, -, e, a4, b4, s4⟩ := (wr_int hb).step e b3
  obtain ⟨x5, q5, -, e, a5, b5, s5⟩ := (wr_word hb).step e b4
  cases e
  refine ⟨by omega, by omega, ?_⟩
  rw [take_join bs (a := at_) (p := q1) (q := q) (by omega) (by omega), s1]
  rw [take_join bs (a := q1) (p := q2) (q := q) (by omega) (by omega), s2]
  rw [take_join bs (a := q2) (p := q3) (q := q) (by omega) (by omega), s3]
  rw [take_join bs (a := q3) (p := q4) (q := q) (by omega) (by omega), s4]
  rw [s5]
  simp only [pHd, List.append_assoc]
theorem wr_cmd {bs : List Nat} (hb : Byt bs) : Wrote bs (rCmd bs) pCmd := by
  refine ⟨fun at_ y q e hl => ?_⟩
  unfold rCmd at e
  obtain ⟨x1, q1, -, e, a1, b1, s1⟩ := (wr_int hb).step e hl
  obtain ⟨x2, q2, -, e, a2, b2, s2⟩ := (wr_num hb).step e b1
  obtain ⟨x3, q3, -, e, a3, b3, s3⟩ := (wr_num hb).step e b2
  obtain ⟨x4, q4, -, e, a4, b4, s4⟩ := (wr_text hb).step e b3
  obtain ⟨x5, q5, -, e, a5, b5, s5⟩ := (wr_int hb).step e b4
  obtain ⟨x6, q6, -, e, a6, b6, s6⟩ := (wr_word hb).step e b5
  obtain ⟨x7, q7, -, e, a7, b7, s7⟩ := (wr_num hb).step e b6
  obtain ⟨x8, q8, -, e, a8, b8, s8⟩ := (wr_num hb).step e b7
  obtain ⟨x9, q9, -, e, a9, b9, s9⟩ := (wr_int hb).step e b8
  obtain ⟨x10, q10, -, e, a10, b10, s10⟩ := (wr_int hb).step e b9
  obtain ⟨x11, q11, -, e, a11, b11, s11⟩ := (wr_flag hb).step e b10
  obtain ⟨x12, q12, -, e, a12, b12, s12⟩ := (wr_id hb).step e b11
  obtain ⟨x13, q13, -, e, a13, b13, s13⟩ := (wr_map hb).step e b12
  cases e
  refine ⟨by omega, by omega, ?_⟩
  rw [take_join bs (a := at_) (p := q1) (q := q) (by omega) (by omega), s1]
  rw [take_join bs (a := q1) (p := q2) (q := q) (by omega) (by omega), s2]
  rw [take_join bs (a := q2) (p := q3) (q := q) (by omega) (by omega), s3]
  rw [take_join bs (a := q3) (p := q4) (q := q) (by omega) (by omega), s4]
  rw [take_join bs (a := q4) (p := q5) (q := q) (by omega) (by omega), s5]
  rw [take_join bs (a := q5) (p := q6) (q := q) (by omega) (by omega), s6]
  rw [take_join bs (a := q6) (p := q7) (q := q) (by omega) (by omega), s7]
  rw [take_join bs (a := q7) (p := q8) (q := q) (by omega) (by omega), s8]
  rw [take_join bs (a := q8) (p := q9) (q := q) (by omega) (by omega), s9]
  rw [take_join bs (a := q9) (p := q10) (q := q) (by omega) (by omega), s10]
  rw [take_join bs (a := q10) (p := q11) (q := q) (by omega) (by omega), s11]
  rw [take_join bs (a := q11) (p := q12) (q := q) (by omega) (by omega), s12]
  rw [s13]
  simp only [pCmd, List.append_assoc]
theorem wr_ent {bs : List Nat} (hb : Byt bs) : Wrote bs (rEnt bs) pEnt := by
  refine ⟨fun at_ y q e hl => ?_⟩
  unfold rEnt at e
  obtain ⟨x1, q1, -, e, a1, b1, s1⟩ := (wr_num hb).step e hl
  obtain ⟨x2, q2, -, e, a2, b2, s2⟩ := (wr_num hb).step e b1
  obtain ⟨x3, q3, -, e, a3, b3, s3⟩ := (wr_int hb).step e b2
  obtain ⟨x4, q4, -, e, a4, b4, s4⟩ := (wr_cmd hb).step e b3
  obtain ⟨x5, q5, -, e, a5, b5, s5⟩ := (wr_conf hb).step e b4
  cases e
  refine ⟨by omega, by omega, ?_⟩
  rw [take_join bs (a := at_) (p := q1) (q := q) (by omega) (by omega), s1]
  rw [take_join bs (a := q1) (p := q2) (q := q) (by omega) (by omega), s2]
  rw [take_join bs (a := q2) (p := q3) (q := q) (by omega) (by omega), s3]
  rw [take_join bs (a := q3) (p := q4) (q := q) (by omega) (by omega), s4]
  rw [s5]
  simp only [pEnt, List.append_assoc]
end Go.Proofs.YtijdbdenmcjmmaaGreatDoor
end
