/-
  A NET THAT WAS MADE: what Part leaves, one node told. (printed by gen_nt6.py); WHAT MUST COME AT ANY RATE of nets does come. (printed by gen_nt7.py); What the row's list gives: package errors' variable; a world that meets it. (after the kit's worked text Toyas. (joined out of NtF, NtG, WirLaid by shake.py)
-/
import Derived.Maps.Own
import Derived.Maps.OwnOps
import Derived.Maps.OwnSet
import Derived.Maps.Views
import Derived.Test.YtijdbdenmcjmmaaGreatDoorCards
import Derived.Test.YtijdbdenmcjmmaaGreatDoorTie
import Derived.ProofKit
import Derived.OpenShut
import Derived.Deep.DeepHandedRow
import Derived.LaidLaws
import Derived.LaidHandle
import Derived.Stop.Joined
import Derived.Test.YtijdbdenmcjmmaaGreatDoorNen31
import Derived.Test.YtijdbdenmcjmmaaGreatDoorNen03
section
namespace Go.Proofs.YtijdbdenmcjmmaaGreatDoor
open Go.RowKit OctMath
set_option linter.unusedVariables false
set_option linter.unusedSimpArgs false
def ik (k : Int) : Lit := .int .i64 k
theorem ik_ne {a b : Int} (h : a ≠ b) : ik a ≠ ik b := fun e => h (by unfold ik at e; injection e)
theorem ik_wf {v : Int} (h : I64 v) : (Lit.int .i64 v).wf = true := by
  have h1 := h.1
  have h2 := h.2
  simp only [Lit.wf, IntKind.min, IntKind.max, IntKind.signed, IntKind.bits]
  simp
  omega
theorem own_base {w : World} {b b' size n : Nat} {t : TypeId} {v : Value} {xs : List Value} (h : w.ownsRow b t size v n xs) (hb : b' ≤ b) : w.ownsRow b' t size v n xs :=
  ⟨h.1, h.2.elim .inl fun ⟨g, cap, cur, h1, h2, h3⟩ => .inr ⟨g, cap, cur, h1, Nat.le_trans hb h2, h3⟩⟩
def cN (d v : Int) : Int := if v = d then 1 else 0
def kp (d : Int) (x : Value × (Int × Int)) : Bool := cN d x.2.1 == cN d x.2.2
def FK (d : Int) (F : List Value) (S : List (Int × Int)) (k : Nat) : List (Value × (Int × Int)) := ((F.zip S).take k).filter (kp d)
theorem fk_next {d : Int} {F : List Value} {S : List (Int × Int)} {k : Nat} {u : Value} {p : Int × Int} (h1 : F[k]? = some u) (h2 : S[k]? = some p) : FK d F S (k + 1) = if kp d (u, p) = true then FK d F S k ++ [(u, p)] else FK d F S k := by
  obtain ⟨l1, e1⟩ := List.getElem?_eq_some_iff.1 h1
  obtain ⟨l2, e2⟩ := List.getElem?_eq_some_iff.1 h2
  have hz : k < (F.zip S).length := by rw [List.length_zip]; omega
  have he : (F.zip S)[k] = (u, p) := by rw [List.getElem_zip, e1, e2]
  unfold FK
  rw [List.take_succ_eq_append_getElem hz, he, List.filter_append]
  cases e : kp d (u, p) with
  | true => rw [if_pos rfl, List.filter_cons_of_pos e, List.filter_nil]
  | false => rw [if_neg (by simp), List.filter_cons_of_neg (by rw [e]; simp), List.filter_nil, List.append_nil]
theorem fk_len (d : Int) (F : List Value) (S : List (Int × Int)) (k : Nat) : (FK d F S k).length ≤ k := Nat.le_trans (List.length_filter_le _ _) (by rw [List.length_take]; omega)
def Amg (bm : Nat) (d : Int) (b : Bool) (w : World) : Prop := ∃ D : DataW Unit, w.ownsMap Tryz.prog 3 (plainElem Tryz.prog 3) bm b.toNat D ∧ Go.Maps.Tidy D ∧ ∀ v : Int, D.atKey (ik v) (.lit (.int .i64 0)) = .lit (.int .i64 (if b = true then cN d v else 0))
theorem Amg.later {bm : Nat} {d : Int} {b : Bool} {w w' : World} (h : Amg bm d b w) (hb : Below w.heap.size w w') : Amg bm d b w' := by
  obtain ⟨D, h1, h2⟩ := h
  exact ⟨D, h1.kept (row := none) ⟨hb.os, hb.tape, hb.output, hb.size, fun i hi _ => hb.block i hi⟩ (by simp), h2⟩
theorem zeroInt (w : World) : (zeroValue 3).run Tryz.prog w = .ok (.int .i64 0) w := by kernel_rfl
theorem lawInt : Go.Maps.Keyed Tryz.prog 3 := Go.Maps.int_keyed Tryz.underlying3
theorem wpl_lookA {ops : Array Oper} {rest : List Oper} {o : Oper} {a : Act} {Q : Exit → Act → World → Prop} {w : World} {bm : Nat} {d : Int} (hg : o.guard = none) (m x : Operand) (hop : o.op = Op.lookup 63 m x false)
    (hS : Amg bm d true w) (v : Int) (hm : a.eval m = .map (some bm)) (hx : a.eval x = .int .i64 v) (wk : I64 v)
    (h : wpList Tryz.prog ops Q rest (a.put o.dst (.int .i64 (cN d v))) w) : wpList Tryz.prog ops Q (o :: rest) a w := by
  obtain ⟨D, h1, _, h4⟩ := hS
  refine wpList_lookup_own_int w hg m x 63 hop 3 3 .i64 lawInt Tryz.underlying63 Tryz.underlying3 (zeroInt w) bm 1 D hm h1 (.int .i64 v) (ik v) hx (Go.Maps.keyOf_int_mk Tryz.underlying3 (ik_wf wk)) ?_
  intro c hat _
  rw [h4, if_pos rfl] at hat
  have hc : cN d v = c := by injection hat with hat; injection hat
  rw [← hc]
  exact h
theorem wpl_updA {ops : Array Oper} {rest : List Oper} {o : Oper} {a : Act} {Q : Exit → Act → World → Prop} {w : World} {bm : Nat} {d : Int} (hg : o.guard = none) (m x y : Operand) (hop : o.op = Op.mapUpdate 63 m x y)
    (hS : Amg bm d false w) (hm : a.eval m = .map (some bm)) (hx : a.eval x = .int .i64 d) (hy : a.eval y = .int .i64 1) (wk : I64 d)
    (h : ∀ w', Hid (Amg bm d true w') → Hid (w.grownBy w' (some bm)) → wpList Tryz.prog ops Q rest (a.put o.dst undef) w') : wpList Tryz.prog ops Q (o :: rest) a w := by
  obtain ⟨D, h1, h2, h4⟩ := hS
  refine wpList_mapUpdate_own w hg m x y 63 hop 3 3 lawInt Tryz.underlying63 _ bm 0 D hm h1 (by unfold maxLen; omega) (.int .i64 d) (.int .i64 1) (ik d) hx hy (Go.Maps.keyOf_int_mk Tryz.underlying3 (ik_wf wk)) (.lit (.int .i64 1)) [] (plainElem_int Tryz.underlying3 (by decide)) ?_
  intro w' k1 k2
  refine h w' (Lh ⟨_, k1, h2.put (by trivial) _, fun v => ?_⟩) (Lh k2)
  rw [if_pos rfl]
  unfold cN
  by_cases e : v = d
  · subst e
    rw [if_pos rfl, Go.Maps.atKey_put_same h2.isMap (by trivial)]
  · rw [if_neg e, Go.Maps.atKey_put_other (ik_ne e), h4, if_neg (by simp)]
theorem wpl_append_g {P : Program} {w : World} {ops : Array Oper} {rest : List Oper} {o : Oper} {a : Act} {Q : Exit → Act → World → Prop} (hgd : o.guard = none) (s x : Operand) (t : TypeId)
    (ho : o.op = .call { callee := .builtin .append, args := #[s, x], argTypes := #[t, t] })
    (base : Nat) (e : TypeId) (z : Value) (size bytes : Nat) (ht : P.underlying t = some (.slice e)) (hinfo : (P.info? e).map (fun i => (i.zero, i.size, i.bytes)) = some (some z, size, bytes)) (hzs : z.cells.size = size) (hsz : 0 < size)
    (v : Value) (n : Nat) (xs : List Value) (hs : a.eval s = v) (hown : w.ownsRow base e size v n xs)
    (B : Nat) (A : Option Addr) (m c : Nat) (news : List Value) (hx : a.eval x = .slice A m c) (hr : Reads w B size A m news) (h1 : ∀ u ∈ news, u.oneCell' = true)
    (hbytes : (n + m) * bytes ≤ 140737488355328) (hb0 : 0 < bytes) (hbase : base ≤ w.heap.size)
    (h : ∀ v' w', Hid (w'.ownsRow base e size v' (n + m) (xs ++ news) ∧ w.grownBy w' v.ownBlock) → wpList P ops Q rest (a.put o.dst v') w') : wpList P ops Q (o :: rest) a w := by
  obtain ⟨i, hi, h2, h3, h4⟩ := info_parts hinfo
  have h63 : n + m ≤ maxLen := by
    have : n + m ≤ (n + m) * bytes := Nat.le_mul_of_pos_right _ hb0
    unfold maxLen; omega
  exact wpList_append_any w hgd s x t ho base e i z size bytes ht hi h2 h3 h4 hzs hsz v n xs hs hown B A m c news hx hr h1 h63 hbytes hbase fun v' w' k1 k2 _ => h v' w' ⟨k1, k2⟩
def PR (d : Int) (F : List Value) (S : List (Int × Int)) (wb wx : World) (k : Nat) (v9 v10 : Value) : Prop := ∃ (p : Nat) (A9 : Option Addr) (c9 : Nat) (A10 : Option Addr) (c10 : Nat), (FK d F S k).length = p ∧ v9 = .slice A9 p c9 ∧ v10 = .slice A10 p c10 ∧
  wx.ownsRow wb.heap.size 33 1 (.slice A9 p c9) p ((FK d F S k).map (·.1)) ∧ wx.ownsRow wb.heap.size 62 2 (.slice A10 p c10) p (mcells ((FK d F S k).map (·.2))) ∧ Below wb.heap.size wb wx
def RetPart (b0 : Nat) (w : World) (g fn : Nat) (F : List Value) (S : List (Int × Int)) (d : Int) (e : Ending) (w' : World) : Prop :=
  ∃ p : Nat, (FK d F S fn).length = p ∧ e = .returned (.int .i64 ((fn : Int) - (p : Int))) ∧ ∃ fA' fc' sA' sc' t1 t2 t3, NS b0 w' g fA' p fc' sA' sc' ((FK d F S fn).map (·.1)) ((FK d F S fn).map (·.2)) t1 t2 t3 ∧ Below b0 w w'
set_option maxRecDepth 100000 in
set_option maxHeartbeats 8000000 in
theorem part_any (b0 : Nat) (w : World) (g : Nat) (fA : Option Addr) (fn fc : Nat) (sA : Option Addr) (sc : Nat) (F : List Value) (S : List (Int × Int)) (t1 t2 t3 : Int) (HN : Hid (NS b0 w g fA fn fc sA sc F S t1 t2 t3)) (A : Option Addr) (c : Nat) (d : Int) (HRD : Hid (Reads w w.heap.size 1 A 1 [.int .i64 d])) (HD : Hid (I64 d)) (HFN : Hid (fn < 1000)) (HB0 : Hid (b0 ≤ w.heap.size)) (HLS : Hid (F.length = fn ∧ S.length = fn)) (HF0 : Hid (0 < fn)) (HFS : Hid (∀ u ∈ F, ∃ A n c, u = Value.slice A n c)) (HSI : Hid (∀ p ∈ S, I64 p.1 ∧ I64 p.2)) :
    Calls Tryz.prog 9 #[.pointer (some ⟨g, 0, none⟩), .slice A 1 c] w (RetPart b0 w g fn F S d) := by
  obtain ⟨ad, rfl, hal, hac⟩ := HRD.out.2 (by omega)
  obtain ⟨fb, fcap, ev, _, hltf⟩ := HN.out.fl.form HF0.out
  injection ev with e1 e2 e3
  subst e1
  obtain ⟨sb, scap, ev, _, hlts⟩ := HN.out.sd.form HF0.out
  injection ev with e1 e4 e5
  subst e1
  have hcf := fun W (k : Below w.heap.size w W) => (own_bel HN.out.fl k).cells (g := fb) rfl
  have hcs := fun W (k : Below w.heap.size w W) => (own_bel HN.out.sd k).cells (g := sb) rfl
  clear e2 e3 e4 e5 hltf hlts
  obtain ⟨af, haf⟩ : ∃ a, (⟨fb, 0, none⟩ : Addr) = a := ⟨_, rfl⟩
  obtain ⟨as', has⟩ : ∃ a, (⟨sb, 0, none⟩ : Addr) = a := ⟨_, rfl⟩
  rw [haf] at HN hcf
  rw [has] at HN hcs
  have HCF := Lh hcf
  have HCS := Lh hcs
  clear haf has hcf hcs
  have HAL := Lh hal
  have HAC := Lh (hac 0 _ rfl)
  have c0 : w.cell? ⟨g, 0, none⟩ = some (.bool true) := HN.out.blk.cell 0
  have hmm := @run_makeMap Tryz.prog
  clear hal hac
  go_enter Tryz.func9, Tryz.ntmps9
  go_upto_region 3 with (fail)
  have hown := World.ownsMap_made (H := Unit) w Tryz.prog 3 (plainElem Tryz.prog 3)
  have hA0 : Amg w.heap.size d false (w.alloc (.map #[] 0)) := ⟨_, hown, Go.Maps.tidy_empty, fun v => rfl⟩
  have hB0 : Below w.heap.size w (w.alloc (.map #[] 0)) := (Below.refl _ _).alloc (Nat.le_refl _) _
  clear hown c0
  obtain ⟨w1, ew⟩ : ∃ w1, w.alloc (.map #[] 0) = w1 := ⟨_, rfl⟩
  obtain ⟨bm, ebm⟩ : ∃ bm, w.heap.size = bm := ⟨_, rfl⟩
  rw [ew, ebm] at hA0
  rw [ew] at hB0
  have HA0 := Lh hA0
  have HB1 := Lh hB0
  have EBM := Lh ebm
  clear hA0 hB0
  go_upto_region 4 with (first | rw [ew] | rw [ebm])
  clear ew ebm hmm
  go_wp2_with fail
  go_loopw [25] (fun vi wr => ∃ k : Nat, k ≤ 1 ∧ vi = .int .i64 k ∧ Hid (Amg bm d (decide (k = 1)) wr) ∧ Hid (Below w.heap.size w wr)) (fun vi _ => 1 - (intOf vi).toNat)
  case atStart => exact ⟨0, by omega, rfl, HA0, HB1⟩
  case round =>
    obtain ⟨k, hk, rfl, HAk, HBk⟩ := hrel
    rcases (show k = 0 ∨ k = 1 from by omega) with rfl | rfl
    · have x0 : wr.cell? ad = some (.int .i64 d) := (HBk.out.cell (p := ad) HAL.out).trans HAC.out
      have HAk : Hid (Amg bm d false wr) := HAk
      go_wp2_with (refine wpl_updA rfl (.tmp 29) (.tmp 30) (.const (.int .i64 1)) rfl HAk.out rfl rfl rfl HD.out ?_; intro w' hA' hg')
      have hB' : Below w.heap.size w w' := ⟨hg'.out.os.trans HBk.out.os, hg'.out.tape.trans HBk.out.tape, hg'.out.output.trans HBk.out.output, Nat.le_trans HBk.out.size hg'.out.size, fun i hi => (hg'.out.block i (Nat.lt_of_lt_of_le hi HBk.out.size) (by have := EBM.out; intro e; injection e with e; omega)).trans (HBk.out.block i hi)⟩
      exact ⟨⟨1, by omega, rfl, hA', Lh hB'⟩, by simp [intOf]⟩
    · have HA1 : Hid (Amg bm d true wr) := HAk
      clear HAk HA0 HB1
      have HBx := Lh (HN.out.blk.below HBk.out HN.out.blk.lt)
      have c1 : wr.cell? ⟨g, 1, none⟩ = some (.slice (some af) fn fc) := HBx.out.cell 1
      have c2 : wr.cell? ⟨g, 2, none⟩ = some (.slice (some as') fn sc) := HBx.out.cell 2
      obtain ⟨wb, ewb⟩ : ∃ wb, wr = wb := ⟨_, rfl⟩
      rw [ewb] at HA1 HBk HBx c1 c2 ⊢
      clear ewb
      have HS0 := Lh (own_bel HN.out.sd HBk.out)
      have HF0 := Lh (own_bel HN.out.fl HBk.out)
      have HAM := Lh (fun W (h : Below wb.heap.size wb W) => HA1.out.later h)
      go_wp2_with fail
      clear c1 c2
      go_loopw [9, 10, 11, 12, 42] (fun v9 v10 _ _ vi wx => ∃ k : Nat, k ≤ fn ∧ vi = .int .i64 k ∧ Hid (PR d F S wb wx k v9 v10)) (fun _ _ _ _ vi _ => fn - (intOf vi).toNat)
      case atStart => exact ⟨0, by omega, rfl, Lh ⟨0, none, 0, none, 0, rfl, rfl, rfl, ⟨rfl, .inl ⟨rfl, rfl⟩⟩, ⟨rfl, .inl ⟨rfl, rfl⟩⟩, Below.refl _ _⟩⟩
      case round =>
        obtain ⟨k, hk, rfl, hpr⟩ := hrel
        obtain ⟨p, A9, c9, A10, c10, hp, rfl, rfl, h9, h10, hby⟩ := hpr.out
        have HPE := Lh hp
        have H9 := Lh h9
        have H10 := Lh h10
        have HBy := Lh hby
        clear hpr hp h9 h10 hby
        have HPK := Lh (show p ≤ k from by rw [← HPE.out]; exact fk_len d F S k)
        have HBw := Lh (HBk.out.trans (HBy.out.mono HBk.out.size))
        have hfn := HFN.out
        by_cases hlt : k < fn
        · obtain ⟨l1, l2⟩ := HLS.out
          obtain ⟨⟨p1, p2⟩, hpr⟩ : ∃ pr, S[k]? = some pr := ⟨S[k]'(by omega), List.getElem?_eq_getElem _⟩
          obtain ⟨u, hu⟩ : ∃ u, F[k]? = some u := ⟨F[k]'(by omega), List.getElem?_eq_getElem _⟩
          have HPR := Lh hpr
          have HU := Lh hu
          have HI := Lh (HSI.out _ (List.mem_of_getElem? hpr))
          have HCK := Lh (fun W (h : Below wr.heap.size wr W) => show ∀ j v, [Value.int .i64 p1, .int .i64 p2][j]? = some v → W.cell? ((as'.add (k * 2)).add j) = some v from fun j v hj => by
            rw [add_of_add]
            refine HCS.out W (HBw.out.trans (h.mono HBw.out.size)) _ v ?_
            have hg := flat_get (cells := fun x : Int × Int => [iv x.1, iv x.2]) (size := 2) (fun _ => rfl) S k (by omega) j
            unfold mcells
            have hj2 : j < 2 := by have := (List.getElem?_eq_some_iff.1 hj).1; simpa using this
            rw [hg hj2, (List.getElem?_eq_some_iff.1 HPR.out).2]
            exact hj)
          have HUK := Lh (fun W (h : Below wr.heap.size wr W) => HCF.out W (HBw.out.trans (h.mono HBw.out.size)) k u HU.out)
          have hN2 := Blk.new wr 62 #[.int .i64 0, .int .i64 0]
          have hBn : Below wr.heap.size wr (wr.alloc (.cells #[.int .i64 0, .int .i64 0] 62)) := (Below.refl _ _).alloc (Nat.le_refl _) _
          have HN2 := Lh hN2
          have HBn := Lh hBn
          clear hpr hu l1 l2 hN2 hBn
          go_upto_region 15 with (first
            | (refine wpl_load_at rfl 62 (.tmp 45) rfl (as'.add (k * 2)) [.int .i64 p1, .int .i64 p2] _ rfl (HCK.out wr (Below.refl _ _)) Tryz.underlying62 rfl rfl ?_)
            | (refine wpl_store_blk rfl 62 (.tmp 12) (.tmp 46) rfl wr.heap.size 62 #[.int .i64 0, .int .i64 0] #[.int .i64 p1, .int .i64 p2] rfl rfl HN2.out rfl rfl rfl ?_; intro w3 hB3 hO3))
          have HB3 := Lh (HBn.out.trans (hO3.out.below (Nat.le_refl _)))
          have HX3 := hB3
          obtain ⟨b12, e12⟩ : ∃ b, wr.heap.size = b := ⟨_, rfl⟩
          have E12 := Lh e12
          rw [e12] at HX3 ⊢
          clear hB3 hO3 e12 HN2 HBn
          have y0 : w3.cell? ⟨b12, 0, none⟩ = some (.int .i64 p1) := HX3.out.cell 0
          have y1 : w3.cell? ⟨b12, 1, none⟩ = some (.int .i64 p2) := HX3.out.cell 1
          have HA3 := Lh (HAM.out w3 (HBy.out.trans (HB3.out.mono HBy.out.size)))
          obtain ⟨b, eb⟩ : ∃ b, (cN d p1 == cN d p2) = b := ⟨_, rfl⟩
          have EB := Lh eb
          have HNX := Lh (fk_next (d := d) HU.out HPR.out)
          cases b with
          | false =>
            go_wp2_with (first
              | (refine wpl_lookA rfl (.tmp 47) (.tmp 49) rfl HA3.out p1 rfl rfl HI.out.1 ?_)
              | (refine wpl_lookA rfl (.tmp 51) (.tmp 53) rfl HA3.out p2 rfl rfl HI.out.2 ?_))
            have hnx : FK d F S (k + 1) = FK d F S k := by rw [HNX.out, if_neg (by unfold kp; rw [EB.out]; simp)]
            refine ⟨⟨_, _, _, _, _, ⟨k + 1, by omega, ?_, Lh ⟨p, A9, c9, A10, c10, by rw [hnx]; exact HPE.out, rfl, rfl, by rw [hnx]; exact own_bel H9.out HB3.out, by rw [hnx]; exact own_bel H10.out HB3.out, HBy.out.trans (HB3.out.mono HBy.out.size)⟩⟩, rfl, rfl, rfl, rfl, rfl⟩, by simp [intOf]; omega⟩
            go_num
          | true =>
            obtain ⟨A1, n1, c1', eu⟩ := HFS.out u (List.mem_of_getElem? HU.out)
            have u3 := HUK.out w3 HB3.out
            rw [eu] at u3
            have EU := Lh eu
            clear eu
            have HBx3 := Lh (HBx.out.below (HBy.out.trans (HB3.out.mono HBy.out.size)) HBx.out.lt)
            have q1 : w3.cell? ⟨g, 1, none⟩ = some (.slice (some af) fn fc) := HBx3.out.cell 1
            go_upto_region 16 with (first
              | (refine wpl_lookA rfl (.tmp 47) (.tmp 49) rfl HA3.out p1 rfl rfl HI.out.1 ?_)
              | (refine wpl_lookA rfl (.tmp 51) (.tmp 53) rfl HA3.out p2 rfl rfl HI.out.2 ?_))
            clear y0 y1 eb
            have hB4 : Below w3.heap.size w3 (w3.alloc (.cells #[.slice A1 n1 c1'] 33)) := (Below.refl _ _).alloc (Nat.le_refl _) _
            have HX4 := Lh (Blk.new w3 33 #[.slice A1 n1 c1'])
            have HB4 := Lh hB4
            have H94 := Lh (own_bel (own_bel H9.out HB3.out) hB4)
            have H104 := Lh (own_bel (own_bel H10.out HB3.out) hB4)
            have HT4 := Lh (HX3.out.alloc (.cells #[.slice A1 n1 c1'] 33))
            have HSZ4 := Lh (show wb.heap.size ≤ (w3.alloc (.cells #[.slice A1 n1 c1'] 33)).heap.size from Nat.le_trans HBy.out.size (Nat.le_trans HB3.out.size hB4.size))
            clear hB4
            go_upto_region 17 with (first
              | (refine wpl_append_g rfl (.tmp 56) (.tmp 64) _ rfl wb.heap.size 33 _ 1 24 Tryz.underlying42 Tryz.zFl rfl (by decide) (.slice A9 p c9) p _ rfl H94.out (w3.alloc (.cells #[.slice A1 n1 c1'] 33)).heap.size (some ⟨w3.heap.size, 0, none⟩) 1 1 [.slice A1 n1 c1'] rfl (reads_new1 HX4.out) (by intro u hu; rw [List.mem_singleton.1 hu]; rfl) (by have := HFN.out; have := HPK.out; omega) (by decide) HSZ4.out ?_
                 rintro v5 w5 h5
                 obtain ⟨ho5, hg5⟩ := h5.out
                 obtain ⟨A5, c5, rfl, _, _⟩ := own_slice ho5
                 have H95 := Lh ho5
                 have HG5 := Lh hg5
                 clear ho5 hg5 h5))
            clear u3 q1
            have H105 := Lh (own_gb H104.out HG5.out (own_ne H104.out H94.out (by decide)))
            have HT5 := Lh (HT4.out.grown HG5.out (Ne.symm (own_blk_ne H94.out HT4.out (by decide))))
            have HB5 := Lh (show Below wb.heap.size wb w5 from own_grown_bel ((HBy.out.trans (HB3.out.mono HBy.out.size)).trans (HB4.out.mono (Nat.le_trans HBy.out.size HB3.out.size))) HSZ4.out H94.out HG5.out)
            have HB6 := Lh (show Below w5.heap.size w5 (w5.alloc (.cells #[.int .i64 p1, .int .i64 p2] 62)) from (Below.refl _ _).alloc (Nat.le_refl _) _)
            have HX6 := Lh (Blk.new w5 62 #[.int .i64 p1, .int .i64 p2])
            have H96 := Lh (own_bel H95.out HB6.out)
            have H106 := Lh (own_bel H105.out HB6.out)
            have HSZ6 := Lh (show wb.heap.size ≤ (w5.alloc (.cells #[.int .i64 p1, .int .i64 p2] 62)).heap.size from Nat.le_trans HB5.out.size HB6.out.size)
            go_wp2_with (first
              | (refine wpl_load_blk rfl 62 (.tmp 12) rfl b12 62 #[.int .i64 p1, .int .i64 p2] _ rfl HT5.out Tryz.underlying62 rfl rfl ?_)
              | (refine wpl_build1g rfl 43 62 (.tmp 67) rfl 2 (by decide) (by decide) #[.int .i64 p1, .int .i64 p2] rfl rfl Tryz.underlying43 Tryz.bSd ?_)
              | (refine wpl_append_g rfl (.tmp 66) (.tmp 68) _ rfl wb.heap.size 62 _ 2 16 Tryz.underlying43 Tryz.zSd rfl (by decide) (.slice A10 p c10) p _ rfl H106.out (w5.alloc (.cells #[.int .i64 p1, .int .i64 p2] 62)).heap.size (some ⟨w5.heap.size, 0, none⟩) 1 1 [.int .i64 p1, .int .i64 p2] rfl (reads_new2 HX6.out) (by intro u hu; rcases List.mem_cons.1 hu with rfl | hu; rfl; rw [List.mem_singleton.1 hu]; rfl) (by have := HFN.out; have := HPK.out; omega) (by decide) HSZ6.out ?_
                 rintro v7 w7 h7
                 obtain ⟨ho7, hg7⟩ := h7.out
                 obtain ⟨A7, c7, rfl, _, _⟩ := own_slice ho7
                 have H107 := Lh ho7
                 have HG7 := Lh hg7
                 clear ho7 hg7 h7))
            have H97 := Lh (own_gb H96.out HG7.out (own_ne H96.out H106.out (by decide)))
            have HB7 := Lh (show Below wb.heap.size wb w7 from own_grown_bel (HB5.out.trans (HB6.out.mono HB5.out.size)) HSZ6.out H106.out HG7.out)
            have hnx : FK d F S (k + 1) = FK d F S k ++ [(u, (p1, p2))] := by rw [HNX.out, if_pos (by unfold kp; exact EB.out)]
            have e1 : (FK d F S (k + 1)).map (·.1) = (FK d F S k).map (·.1) ++ [.slice A1 n1 c1'] := by rw [hnx, List.map_append, EU.out]; rfl
            have e2 : mcells ((FK d F S (k + 1)).map (·.2)) = mcells ((FK d F S k).map (·.2)) ++ [.int .i64 p1, .int .i64 p2] := by rw [hnx, List.map_append, mcells_snoc]; rfl
            refine ⟨⟨_, _, _, _, _, ⟨k + 1, by omega, ?_, Lh ⟨p + 1, A5, c5, A7, c7, by rw [hnx, List.length_append, HPE.out]; rfl, rfl, rfl, by rw [e1]; exact H97.out, by rw [e2]; exact H107.out, HB7.out⟩⟩, rfl, rfl, rfl, rfl, rfl⟩, by simp [intOf]; omega⟩
            go_num
        · obtain rfl : fn = k := by omega
          have HBx4 := Lh (HBx.out.below HBy.out HBx.out.lt)
          have z1 : wr.cell? ⟨g, 1, none⟩ = some (.slice (some af) fn fc) := HBx4.out.cell 1
          have f1 : wr.frozen? ⟨g, 1, none⟩ = false := HBx4.out.frozen 1
          have z2 : (wr.setCell ⟨g, 1, none⟩ (.slice A9 p c9)).cell? ⟨g, 2, none⟩ = some (.slice (some as') fn sc) := (HBx4.out.set_ 1 _).cell 2
          have f2 : (wr.setCell ⟨g, 1, none⟩ (.slice A9 p c9)).frozen? ⟨g, 2, none⟩ = false := (HBx4.out.set_ 1 _).frozen 2
          go_upto_region 20 with (fail)
          clear z1 f1 z2 f2
          have HX5 := Lh (show Blk ((wr.setCell ⟨g, 1, none⟩ (.slice A9 p c9)).setCell ⟨g, 2, none⟩ (.slice A10 p c10)) g 45 (nCs A9 p c9 A10 p c10 t1 t2 t3) from (HBx4.out.set_ 1 _).set_ 2 _)
          have HO5 := Lh ((Only.set_ wr g 1 (.slice A9 p c9)).trans (Only.set_ (wr.setCell ⟨g, 1, none⟩ (.slice A9 p c9)) g 2 (.slice A10 p c10)))
          obtain ⟨w5, ew5⟩ : ∃ w5, (wr.setCell ⟨g, 1, none⟩ (.slice A9 p c9)).setCell ⟨g, 2, none⟩ (.slice A10 p c10) = w5 := ⟨_, rfl⟩
          rw [ew5] at HX5 HO5 ⊢
          clear ew5
          have z5 : w5.cell? ⟨g, 5, none⟩ = some (.int .i64 t3) := HX5.out.cell 5
          have f5 : w5.frozen? ⟨g, 5, none⟩ = false := HX5.out.frozen 5
          have hw1 : IntKind.i64.wrap ((fn : Int) - (p : Int)) = (fn : Int) - (p : Int) := by have := HPK.out; have := HFN.out; rw [IntKind.wrap_i64] <;> omega
          obtain ⟨q, hq⟩ : ∃ q, IntKind.i64.wrap (t3 + ((fn : Int) - (p : Int))) = q := ⟨_, rfl⟩
          go_wp2_with (rw [hq])
          have HX6 := Lh (show Blk (w5.setCell ⟨g, 5, none⟩ (.int .i64 q)) g 45 (nCs A9 p c9 A10 p c10 t1 t2 q) from HX5.out.set_ 5 _)
          have HO6 := Lh (HO5.out.trans (Only.set_ w5 g 5 (.int .i64 q)))
          have hge := HN.out.ge
          have hbb : b0 ≤ wb.heap.size := Nat.le_trans HB0.out HBk.out.size
          go_ret
          refine ⟨p, HPE.out, rfl, A9, c9, A10, c10, t1, t2, q, ⟨HX6.out, ?_, ?_, hge⟩, (((HBk.out.mono HB0.out).trans (HBy.out.mono hbb)).trans (HO6.out.below hge))⟩
          · exact own_base (own_gb H9.out HO6.out.grown (.inr (own_blk_ne H9.out HBx4.out (by decide)))) hbb
          · exact own_base (own_gb H10.out HO6.out.grown (.inr (own_blk_ne H10.out HBx4.out (by decide)))) hbb
end Go.Proofs.YtijdbdenmcjmmaaGreatDoor
end
section
namespace Go.Proofs.YtijdbdenmcjmmaaGreatDoor
open Go.RowKit OctMath
set_option linter.unusedVariables false
set_option linter.unusedSimpArgs false
def pingM (f t : Int) (c : Nat) : MG := ⟨⟨18, f, t, 0, 0, 0, 0, c, false, false, [], [], [], ⟨⟨0, 0, 0⟩, 0, 0, 0, 0⟩, [], 0, 0, 0, [], 0, []⟩, [], none, 0, none, 0, none, 0, none, 0, none, 0⟩
theorem pingM_cs1 : mgCs (pingM 1 2 7) = #[.int .i64 18, .int .i64 1, .int .i64 2, .int .u64 0, .int .u64 0, .int .u64 0, .int .u64 0, .int .u64 7, .bool false, .bool false, .slice none 0 0, .slice none 0 0, .slice none 0 0, .int .u64 0, .int .i64 0, .int .u64 0, .int .i64 0, .int .i64 0, .int .i64 0, .int .u32 0, .slice none 0 0, .int .u64 0, .int .u64 0, .int .i64 0, .string ⟨#[]⟩, .int .i64 0, .slice none 0 0] := by unfold pingM mgCs mgA; rfl
theorem pingM_cs2 : mgCs (pingM 2 3 0) = #[.int .i64 18, .int .i64 2, .int .i64 3, .int .u64 0, .int .u64 0, .int .u64 0, .int .u64 0, .int .u64 0, .bool false, .bool false, .slice none 0 0, .slice none 0 0, .slice none 0 0, .int .u64 0, .int .i64 0, .int .u64 0, .int .i64 0, .int .i64 0, .int .i64 0, .int .u32 0, .slice none 0 0, .int .u64 0, .int .u64 0, .int .i64 0, .string ⟨#[]⟩, .int .i64 0, .slice none 0 0] := by unfold pingM mgCs mgA; rfl
theorem pingM_in1 (w : World) : MgIn w (pingM 1 2 7) := by
  have rz : ∀ sz, Reads w w.heap.size sz none 0 [] := fun sz => ⟨by simp, fun h => absurd h (by omega)⟩
  refine ⟨rz 21, (fun e h => by cases h), rfl, rz 1, rz 1, rz 1, rz 1, ?_⟩
  constructor
  all_goals first
    | decide
    | (intro y h; cases h)
    | (constructor <;> decide)
theorem pingM_ok1 : MsgOk (pingM 1 2 7).x := by
  constructor
  all_goals first
    | decide
    | (refine ⟨?_, ?_⟩ <;> first | decide | (intro y h; cases h) | (refine ⟨?_, ?_⟩ <;> first | decide | (intro y h; cases h)))
    | (constructor <;> decide)
theorem pingM_in2 (w : World) : MgIn w (pingM 2 3 0) := by
  have rz : ∀ sz, Reads w w.heap.size sz none 0 [] := fun sz => ⟨by simp, fun h => absurd h (by omega)⟩
  refine ⟨rz 21, (fun e h => by cases h), rfl, rz 1, rz 1, rz 1, rz 1, ?_⟩
  constructor
  all_goals first
    | decide
    | (intro y h; cases h)
    | (constructor <;> decide)
theorem pingM_ok2 : MsgOk (pingM 2 3 0).x := by
  constructor
  all_goals first
    | decide
    | (refine ⟨?_, ?_⟩ <;> first | decide | (intro y h; cases h) | (refine ⟨?_, ?_⟩ <;> first | decide | (intro y h; cases h)))
    | (constructor <;> decide)
theorem pingM_len1 : (pMsg (pingM 1 2 7).x).length = 27 := by
  simp [pMsg, pingM, pInt, zz, pConf, pList, pHd, pId, pText, pFlag, putN_small]
theorem pingM_len2 : (pMsg (pingM 2 3 0).x).length = 27 := by
  simp [pMsg, pingM, pInt, zz, pConf, pList, pHd, pId, pText, pFlag, putN_small]
set_option maxRecDepth 100000 in
set_option maxHeartbeats 8000000 in
theorem nheads_any (w : World) (hg : Hid (GE w)) : Calls Tryz.prog 12 #[] w fun e w' => e = .returned (.bool true) ∧ Below w.heap.size w w' := by
  have HR1 := Lh (show rMsg (pMsg (pingM 1 2 7).x) 0 = some ((pingM 1 2 7).x, 27) from by
    have h := (got_msg pingM_ok1).rd [] []
    simp only [List.nil_append, List.append_nil, List.length_nil] at h
    rw [pingM_len1] at h
    exact h)
  go_enter Tryz.func12, Tryz.ntmps12
  go_upto_region 2 with (go_at_call 16; refine (new_any w).mono ?_; rintro e w1 ⟨rfl, hn, hb⟩)
  have HN1 := Lh hn
  have HB1 := Lh hb
  clear hn hb
  obtain ⟨g, eg⟩ : ∃ g, w.heap.size = g := ⟨_, rfl⟩
  have EG := Lh eg
  have HGL := Lh HB1.out.size
  have HS1 := Lh (send_any w.heap.size w1 w.heap.size none 0 0 none 0 [] [] 0 0 0 (pingM 1 2 7) HN1 (Lh (pingM_in1 w1)) (Lh pingM_ok1) (Lh (by omega)) (Lh HB1.out.size) (Lh (by rw [pingM_len1]; omega)))
  rw [pingM_cs1, eg] at HS1
  rw [eg]
  clear eg
  go_upto_region 5 with (go_at_call 7; refine HS1.out.mono ?_; rintro e w2 ⟨rfl, A, n, c, fA, fc, sA, sc, t1, t2, t3, hn, hb, hs, hel, -⟩)
  have hel := hel (by simp) (by simp) (by rw [pingM_len1]; omega)
  have HN2 := Lh hn
  have HB2 := Lh (show Below w.heap.size w w2 from HB1.out.trans (by rw [EG.out]; exact hb))
  have HE2 := Lh hel
  clear hn hb hs hel HS1
  have en : n = 27 := by have := HE2.out.in_.len; rw [pingM_len1] at this; exact this.symm
  subst en
  have HS2 := Lh (send_any g w2 g fA 1 fc sA sc _ _ t1 t2 t3 (pingM 2 3 0) HN2 (Lh (pingM_in2 w2)) (Lh pingM_ok2) (Lh (by omega)) (Lh (by rw [← EG.out]; exact HB2.out.size)) (Lh (by rw [pingM_len2]; omega)))
  rw [pingM_cs2] at HS2
  go_upto_region 6 with (go_at_call 7; refine HS2.out.mono ?_; rintro e w3 ⟨rfl, A2, n2, c2, fA3, fc3, sA3, sc3, t1', t2', t3', hn, hb, hs, -, hel⟩)
  have HE3 := Lh (hel _ _ _ _ HE2.out)
  have HN3 := Lh hn
  have HB3 := Lh (HB2.out.trans (show Below w.heap.size w2 w3 from by rw [EG.out]; exact hb))
  clear hn hb hs hel HS2 HE2 HN2
  have HD := Lh (double0_any g w3 g fA3 2 fc3 sA3 sc3 _ _ t1' t2' t3' HN3 A 27 c _ (Lh HE3.out.in_) (Lh rfl) 1 2 (Lh rfl) _ HR1 (Lh (hg.out.later HB3.out)) (Lh (by omega)) (Lh (by rw [← EG.out]; exact HB3.out.size)))
  go_upto_region 7 with (go_at_call 8; refine HD.out.mono ?_; rintro e w4 ⟨rfl, fA4, fc4, sA4, sc4, u1, u2, u3, hn, hb, hs, hel⟩)
  have HE4 := Lh (hel _ _ _ _ HE3.out)
  have HN4 := Lh hn
  have HB4 := Lh (HB3.out.trans (show Below w.heap.size w3 w4 from by rw [EG.out]; exact hb))
  clear hn hb hs hel HD HE3 HN3
  have HT := Lh (take0_any g w4 g fA4 3 fc4 sA4 sc4 _ _ u1 u2 u3 HN4 A 27 c _ (Lh HE4.out.in_) (Lh rfl) 1 2 (Lh rfl) _ HR1 (Lh (hg.out.later HB4.out)) (Lh (by omega)) (Lh (by omega)) (Lh (by rw [← EG.out]; exact HB4.out.size)))
  go_upto_region 8 with (first
    | (go_at_call 4; refine HT.out.mono ?_; rintro e w5 ⟨m, hmx, rfl, fA5, fc5, sA5, sc5, v1, v2, v3, hn, hb, hs⟩
       have HMX := Lh hmx
       obtain ⟨cs, ecs⟩ : ∃ cs, mgCs m = cs := ⟨_, rfl⟩
       have HK7 := Lh (show cs[7]? = some (.int .u64 7) from by rw [← ecs]; unfold mgCs; rw [hmx]; rfl)
       have HSZ := Lh (show cs.size = 27 from by rw [← ecs]; rfl)
       have HONE := Lh (show cs.toList.all (·.oneCell') = true from by rw [← ecs]; rfl)
       rw [ecs]
       have HN5 := Lh (show NS g w5 g fA5 2 fc5 sA5 sc5 [.slice A2 n2 c2, .slice A 27 c] [(2, 3), (1, 2)] v1 v2 v3 from hn)
       have HB5 := Lh (HB4.out.trans (show Below w.heap.size w4 w5 from by rw [EG.out]; exact hb))
       have HNW := Lh (Blk.new w5 38 msgZ)
       clear hn hb hs hmx ecs HT HE4 HN4)
    | (refine wpl_store_blk rfl 38 (.tmp 5) (.tmp 23) rfl w5.heap.size 38 msgZ cs rfl rfl HNW.out (by rw [HSZ.out]; rfl) (by rw [HSZ.out]; exact sizeMsg) HONE.out ?_; intro w6 hB6 hO6))
  have HB56 := Lh (show Below w5.heap.size w5 w6 from ((Below.refl w5.heap.size w5).alloc (Nat.le_refl _) (.cells msgZ 38)).trans (hO6.out.below (Nat.le_refl _)))
  have HN6 := Lh (HN5.out.later HB56.out)
  have HB6 := Lh (HB5.out.trans (HB56.out.mono HB5.out.size))
  have HC6 := hB6
  obtain ⟨b5, e5⟩ : ∃ b, w5.heap.size = b := ⟨_, rfl⟩
  have HGB := Lh (show g < b5 from by rw [← e5]; exact HN5.out.blk.lt)
  rw [e5] at HC6 ⊢
  clear hB6 hO6 e5 HNW HB56 HN5
  have HT9 := Lh (take_out g w6 g fA5 2 fc5 sA5 sc5 _ _ v1 v2 v3 HN6 9 (by omega) (by omega))
  go_upto_region 9 with (first
    | (go_at_call 4; refine HT9.out.mono ?_; rintro e w7 ⟨rfl, hb⟩
       have HB67 := Lh hb
       have HNW := Lh (Blk.new w7 38 msgZ)
       clear hb)
    | (refine wpl_store_blk rfl 38 (.tmp 7) (.tmp 28) rfl w7.heap.size 38 msgZ msgZ rfl rfl HNW.out rfl sizeMsg rfl ?_; intro w8 hB8 hO8))
  have HB68 := Lh (show Below w6.heap.size w6 w8 from HB67.out.trans ((((Below.refl w7.heap.size w7).alloc (Nat.le_refl _) (.cells msgZ 38)).trans (hO8.out.below (Nat.le_refl _))).mono HB67.out.size))
  have HN8 := Lh (HN6.out.later HB68.out)
  have HB8 := Lh (HB6.out.trans (HB68.out.mono HB6.out.size))
  have HC8 := Lh (HC6.out.below HB68.out HC6.out.lt)
  clear HT9 hB8 hO8 HNW HB67 HN6 HC6 HB68
  have k7 : w8.cell? ⟨b5, 7, none⟩ = some (.int .u64 7) := (HC8.out.cell 7).trans HK7.out
  have HL8 := Lh (len_any g w8 g fA5 2 fc5 sA5 sc5 _ _ v1 v2 v3 HN8)
  obtain ⟨w9, ew9⟩ : ∃ w9, w8.alloc (.cells #[.int .i64 1] 3) = w9 := ⟨_, rfl⟩
  have hb9 : Below w8.heap.size w8 (w8.alloc (.cells #[.int .i64 1] 3)) := (Below.refl _ _).alloc (Nat.le_refl _) _
  have hr9 := Blk.new w8 3 #[.int .i64 1]
  rw [ew9] at hb9 hr9
  have HB89 := Lh hb9
  have HP := Lh (part_any g w9 g fA5 2 fc5 sA5 sc5 [Value.slice A2 n2 c2, .slice A 27 c] [(2, 3), (1, 2)] v1 v2 v3 (Lh (HN8.out.later hb9)) (some ⟨w8.heap.size, 0, none⟩) 1 1 (Lh (reads_new1 hr9)) (Lh ⟨by decide, by decide⟩) (Lh (by omega)) (Lh (by rw [← EG.out]; exact Nat.le_trans HB8.out.size hb9.size)) (Lh ⟨rfl, rfl⟩) (Lh (by omega)) (Lh (by intro u hu; simp at hu; rcases hu with rfl | rfl <;> exact ⟨_, _, _, rfl⟩)) (Lh (by intro p hp; simp at hp; rcases hp with rfl | rfl <;> exact ⟨⟨by decide, by decide⟩, ⟨by decide, by decide⟩⟩)))
  have hfk : (FK 1 [Value.slice A2 n2 c2, .slice A 27 c] [(2, 3), (1, 2)] 2).length = 1 := rfl
  have HFK := Lh hfk
  clear hb9 hr9 hfk
  have tk : True := trivial
  go_wp2_with (first
    | rw [ew9]
    | (have _t := tk; go_at_call 10; refine HL8.out.mono ?_; rintro e w' ⟨rfl, hw⟩; rw [hw]; clear hw tk _t)
    | (go_at_call 9; refine HP.out.mono ?_; rintro e wa ⟨p, hp, rfl, fA9, fc9, sA9, sc9, x1, x2, x3, hn, hb⟩
       rw [HFK.out] at hp
       subst hp
       have HLA := Lh (len_any g wa g fA9 1 fc9 sA9 sc9 _ _ x1 x2 x3 (Lh hn))
       have HBA := Lh hb
       clear hn hb)
    | (go_at_call 10; refine HLA.out.mono ?_; rintro e w' ⟨rfl, hw⟩; rw [hw]; clear hw))
  go_ret
  exact ⟨rfl, (HB8.out.trans (HB89.out.mono HB8.out.size)).trans (by rw [EG.out]; exact HBA.out)⟩
end Go.Proofs.YtijdbdenmcjmmaaGreatDoor
end
section
namespace Go.Proofs.YtijdbdenmcjmmaaGreatDoor
open Go.RowKit Go.ChangeShapes Go.WideShapes
set_option linter.unusedVariables false
theorem et0 : Tryz.prog.globalNamed "errors.errorType" = some 0 := by kernel_rfl
theorem rt0 : (Tryz.prog.cutTypes.find? (·.1 == "internal/reflectlite.rtype")).map (·.2) = some 195 := by kernel_rfl
theorem oneRow0 : ((List.range 246).filter fun t => Tryz.prog.rowNamed t [101, 114, 114, 111, 114]) = [67] := by kernel_rfl
theorem tsize0 : Tryz.prog.types.size = 246 := by kernel_rfl
abbrev laid0 : List (String × DataW Unit) := [("errors.errorType", Rows.laid_errors_errorType)]
theorem ge_of_laid {W : World} (h : laidMetH Tryz.prog laid0 W) : GE W := by
  have h' : laidMet Tryz.prog [] W ∧ handlesMet Tryz.prog laid0 W := h
  obtain ⟨name, u, ty, e1, e2, e3, e4, e5⟩ := h'.2 _ (List.mem_singleton.2 rfl)
  have en : name = [101, 114, 114, 111, 114] := (Option.some.inj e1).symm
  subst en
  obtain rfl := Option.some.inj (rt0.symm.trans e2)
  have hm : ty ∈ (List.range 246).filter fun t => Tryz.prog.rowNamed t [101, 114, 114, 111, 114] := List.mem_filter.2 ⟨List.mem_range.2 (by rw [← tsize0]; exact e3), e4⟩
  rw [oneRow0] at hm
  obtain rfl := List.mem_singleton.1 hm
  have hh : typeHandle Tryz.prog 67 = .pointer (some ⟨1, 67, none⟩) := by kernel_rfl
  rw [hh] at e5
  unfold GE
  simpa using World.var?_cell et0 e5 0
noncomputable def laidWorld (os : Os) : World :=
  let w0 := World.holding Tryz.prog os ⟨#[], #[], []⟩
  { w0 with heap := w0.heap.modify 0 fun
      | .cells _ t frozen => .cells #[.iface 195 (.agg #[.pointer (some ⟨1, 67, none⟩)])] t frozen
      | o => o }
theorem laid_met (os : Os) (args : Array Value) : laidMetH Tryz.prog laid0 ((laidWorld os).forCall (fun _ _ => 0) ⟨#[], args, []⟩).memory :=
  laidMetH_of_parts (laidMet_nil _ _) (by kernel_rfl)
end Go.Proofs.YtijdbdenmcjmmaaGreatDoor
end
