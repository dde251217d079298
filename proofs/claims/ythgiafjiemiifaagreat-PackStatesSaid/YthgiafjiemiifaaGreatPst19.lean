/-
  WHAT IS READ IS WHAT ITS WRITER PUTS: plain. (printed by gen_paw1.py); THE PROGRAM'S WRITER: numbers with a sign, flags, texts, rows of numbers. (printed by gen_pas2.py). (joined out of PaW1, PaS2 by shake.py)
-/
import Derived.Test.YthgiafjiemiifaaGreatPst07
import Derived.Test.YthgiafjiemiifaaGreatPst05
import Derived.Test.YthgiafjiemiifaaGreatPst01
import Derived.Test.YthgiafjiemiifaaGreatPst18
import Derived.Test.YthgiafjiemiifaaGreatPst11
section
namespace Go.Proofs.YthgiafjiemiifaaGreat
open OctMath
set_option linter.unusedVariables false
set_option linter.unusedSimpArgs false
theorem Wrote.step {α β : Type} {bs : List Nat} {r : Rd α} {f : α → Rd β} {put : α → List Nat} (h : Wrote bs r put) {at_ q : Nat} {y : β} (e : r.bind f at_ = some (y, q)) (hl : at_ ≤ bs.length) :
    ∃ x p, r at_ = some (x, p) ∧ f x p = some (y, q) ∧ at_ ≤ p ∧ p ≤ bs.length ∧ (bs.drop at_).take (p - at_) = put x := by
  cases h1 : r at_ with
  | none => rw [Rd.bind_none h1] at e; cases e
  | some v =>
    obtain ⟨x, p⟩ := v
    rw [Rd.bind_some h1] at e
    obtain ⟨a1, a2, a3⟩ := h.rd at_ x p h1 hl
    exact ⟨x, p, rfl, e, a1, a2, a3⟩
def pInt (x : Int) : List Nat := putN (zz x)
def pFlag (b : Bool) : List Nat := [if b then 1 else 0]
def pText (xs : List Nat) : List Nat := putN xs.length ++ xs
def pList {α : Type} (put : α → List Nat) (l : List α) : List Nat := putN l.length ++ l.flatMap put
def pMem (x : Int × Int) : List Nat := pInt x.1 ++ pInt x.2
def pMap (x : Nat × List (Int × Int)) : List Nat := putN x.1 ++ pList pMem x.2
def pConf (x : List Int × List Int) : List Nat := pList pInt x.1 ++ pList pInt x.2
def pId (d : IdT) : List Nat := putN d.ver ++ (pInt d.idx ++ putN d.ep)
def pHd (h : HdT) : List Nat := pId h.id ++ (pInt h.k ++ (pInt h.n ++ (pInt h.size ++ putN h.sum)))
def pCmd (c : CmdT) : List Nat := pInt c.kind ++ (putN c.client ++ (putN c.seq ++ (pText c.key ++ (pInt c.size ++ (putN c.sum ++ (putN c.version ++ (putN c.epoch ++ (pInt c.group ++ (pInt c.node ++ (pFlag c.up ++ (pId c.id ++ pMap (c.mep, c.mem))))))))))))
def pEnt (e : EntT) : List Nat := putN e.index ++ (putN e.term ++ (pInt e.kind ++ (pCmd e.cmd ++ pConf (e.voters, e.learners))))
theorem wr_num {bs : List Nat} (hb : Byt bs) : Wrote bs (rNum bs) putN := by
  refine ⟨fun at_ x p h hl => ?_⟩
  unfold rNum at h
  split at h
  · rename_i he
    obtain ⟨k, e1, e2, e3, e4⟩ := rdN_one bs at_ hb he
    obtain rfl : at_ = k := by omega
    rw [e2] at h
    simp only [Option.some.injEq, Prod.mk.injEq] at h
    obtain ⟨rfl, rfl⟩ := h
    refine ⟨by omega, by omega, ?_⟩
    rw [show ((at_ + (putN (rdN bs at_).1).length : Nat) : Int).toNat - at_ = (putN (rdN bs at_).1).length by omega]
    exact e4
  · cases h
theorem wr_int {bs : List Nat} (hb : Byt bs) : Wrote bs (rInt bs) pInt := by
  refine ⟨fun at_ x p h hl => ?_⟩
  unfold rInt at h
  cases h1 : rNum bs at_ with
  | none => rw [h1] at h; cases h
  | some v =>
    obtain ⟨n, q⟩ := v
    rw [h1] at h
    simp only [Option.map_some, Option.some.injEq, Prod.mk.injEq] at h
    obtain ⟨rfl, rfl⟩ := h
    have := (wr_num hb).rd at_ n q h1 hl
    unfold pInt
    rw [zz_unz]
    exact this
theorem wr_word {bs : List Nat} (hb : Byt bs) : Wrote bs (rWord bs) putN := by
  refine ⟨fun at_ x p h hl => ?_⟩
  unfold rWord at h
  cases h1 : rNum bs at_ with
  | none => rw [h1] at h; cases h
  | some v =>
    obtain ⟨n, q⟩ := v
    rw [h1] at h
    simp only at h
    split at h
    · cases h; exact (wr_num hb).rd at_ _ _ h1 hl
    · cases h
theorem wr_flag {bs : List Nat} (hb : Byt bs) : Wrote bs (rFlag bs) pFlag := by
  refine ⟨fun at_ x p h hl => ?_⟩
  unfold rFlag at h
  split at h
  · rename_i hc
    obtain ⟨c1, c2⟩ := hc
    simp only [Option.some.injEq, Prod.mk.injEq] at h
    obtain ⟨rfl, rfl⟩ := h
    refine ⟨by omega, by omega, ?_⟩
    rw [show at_ + 1 - at_ = 1 by omega]
    have hd : bs.drop at_ = bs.getD at_ 0 :: bs.drop (at_ + 1) := by
      rw [List.drop_eq_getElem_cons c1]
      congr 1
      rw [List.getD_eq_getElem?_getD, List.getElem?_eq_getElem c1]; rfl
    rw [hd]
    generalize bs.getD at_ 0 = v at *
    unfold pFlag
    have : v = 0 ∨ v = 1 := by omega
    rcases this with rfl | rfl <;> simp
  · cases h
theorem wr_text {bs : List Nat} (hb : Byt bs) : Wrote bs (rText bs) pText := by
  refine ⟨fun at_ x p h hl => ?_⟩
  unfold rText at h
  split at h
  · rename_i he
    obtain ⟨k, e1, e2, e3, e4⟩ := rdB_one bs at_ 1048576 hb he
    generalize rdB bs at_ 1048576 = r at *
    obtain ⟨v, q, er⟩ := r
    simp only at h e2 e3 e4
    obtain rfl : at_ = k := by omega
    rw [e2] at h
    simp only [Option.some.injEq, Prod.mk.injEq] at h
    obtain ⟨rfl, rfl⟩ := h
    refine ⟨by omega, by omega, ?_⟩
    rw [show ((at_ + (putN v.length ++ v).length : Nat) : Int).toNat - at_ = (putN v.length ++ v).length by omega]
    exact e4
  · cases h
theorem wr_times {α : Type} {bs : List Nat} {one : Rd α} {put : α → List Nat} (h : Wrote bs one put) : ∀ k, Wrote bs (rTimes one k) (fun l => l.flatMap put)
  | 0 => ⟨fun at_ x p e hl => by cases e; exact ⟨Nat.le_refl _, hl, by simp⟩⟩
  | k + 1 => ⟨fun at_ y q e hl => by
    have e' : (rTimes one k).bind (fun l => one.bind fun x => Rd.pure (l ++ [x])) at_ = some (y, q) := e
    obtain ⟨l, p, -, e1, a1, a2, a3⟩ := (wr_times h k).step e' hl
    obtain ⟨x, r, -, e2, b1, b2, b3⟩ := h.step e1 a2
    cases e2
    exact ⟨by omega, b2, by rw [take_join bs a1 b1, a3, b3]; simp⟩⟩
theorem times_len {α : Type} {one : Rd α} {p k : Nat} : ∀ {q : Nat} {l : List α}, rTimes one k p = some (l, q) → l.length = k := by
  induction k with
  | zero => intro q l h; cases h; rfl
  | succ k ih =>
    intro q l h
    have h' : (rTimes one k).bind (fun l => one.bind fun x => Rd.pure (l ++ [x])) p = some (l, q) := h
    cases h1 : rTimes one k p with
    | none => rw [Rd.bind_none h1] at h'; cases h'
    | some v =>
      obtain ⟨l1, q1⟩ := v
      rw [Rd.bind_some h1] at h'
      cases h2 : one q1 with
      | none => rw [Rd.bind_none h2] at h'; cases h'
      | some v =>
        obtain ⟨x, q2⟩ := v
        rw [Rd.bind_some h2] at h'
        cases h'
        rw [List.length_append, ih h1]; rfl
theorem wr_list {α : Type} {bs : List Nat} (hb : Byt bs) {one : Rd α} {put : α → List Nat} (h : Wrote bs one put) : Wrote bs (rList bs one) (pList put) := by
  refine ⟨fun at_ y q e hl => ?_⟩
  unfold rList at e
  obtain ⟨n, p, -, e1, a1, a2, a3⟩ := (wr_num hb).step e hl
  split at e1
  · cases e1
  · obtain ⟨b1, b2, b3⟩ := (wr_times h n).rd p y q e1 a2
    refine ⟨by omega, b2, ?_⟩
    unfold pList
    rw [take_join bs a1 b1, a3, b3, times_len e1]
theorem wr_mem {bs : List Nat} (hb : Byt bs) : Wrote bs (rMem bs) pMem := by
  refine ⟨fun at_ y q e hl => ?_⟩
  unfold rMem at e
  obtain ⟨x1, q1, -, e, a1, b1, s1⟩ := (wr_int hb).step e hl
  obtain ⟨x2, q2, -, e, a2, b2, s2⟩ := (wr_int hb).step e b1
  cases e
  refine ⟨by omega, by omega, ?_⟩
  rw [take_join bs (a := at_) (p := q1) (q := q) (by omega) (by omega), s1]
  rw [s2]
  simp only [pMem, List.append_assoc]
theorem wr_map {bs : List Nat} (hb : Byt bs) : Wrote bs (rMap bs) pMap := by
  refine ⟨fun at_ y q e hl => ?_⟩
  unfold rMap at e
  obtain ⟨x1, q1, -, e, a1, b1, s1⟩ := (wr_num hb).step e hl
  obtain ⟨x2, q2, -, e, a2, b2, s2⟩ := (wr_list hb (wr_mem hb)).step e b1
  cases e
  refine ⟨by omega, by omega, ?_⟩
  rw [take_join bs (a := at_) (p := q1) (q := q) (by omega) (by omega), s1]
  rw [s2]
  simp only [pMap, List.append_assoc]
theorem wr_conf {bs : List Nat} (hb : Byt bs) : Wrote bs (rConf bs) pConf := by
  refine ⟨fun at_ y q e hl => ?_⟩
  unfold rConf at e
  obtain ⟨x1, q1, -, e, a1, b1, s1⟩ := (wr_list hb (wr_int hb)).step e hl
  obtain ⟨x2, q2, -, e, a2, b2, s2⟩ := (wr_list hb (wr_int hb)).step e b1
  cases e
  refine ⟨by omega, by omega, ?_⟩
  rw [take_join bs (a := at_) (p := q1) (q := q) (by omega) (by omega), s1]
  rw [s2]
  simp only [pConf, List.append_assoc]
theorem wr_id {bs : List Nat} (hb : Byt bs) : Wrote bs (rId bs) pId := by
  refine ⟨fun at_ y q e hl => ?_⟩
  unfold rId at e
  obtain ⟨x1, q1, -, e, a1, b1, s1⟩ := (wr_num hb).step e hl
  obtain ⟨x2, q2, -, e, a2, b2, s2⟩ := (wr_int hb).step e b1
  obtain ⟨x3, q3, -, e, a3, b3, s3⟩ := (wr_num hb).step e b2
  cases e
  refine ⟨by omega, by omega, ?_⟩
  rw [take_join bs (a := at_) (p := q1) (q := q) (by omega) (by omega), s1]
  rw [take_join bs (a := q1) (p := q2) (q := q) (by omega) (by omega), s2]
  rw [s3]
  simp only [pId, List.append_assoc]
theorem wr_cmd {bs : List Nat} (hb : Byt bs) : Wrote bs (rCmd bs) pCmd := by
  refine ⟨fun at_ y q e hl => ?_⟩
  unfold rCmd at e
  obtain ⟨x1, q1, -, e, a1, b1, s1⟩ := (wr_int hb).step e hl
  obtain ⟨x2, q2, -, e, a2, b2, s2⟩ := (wr_num hb).step e b1
  obtain ⟨x3, q3, -, e, a3, b3, s3⟩ := (wr_num hb).step e b2
  obtain ⟨x4, q4, -, e, a4, b4, s4⟩ := (wr_text hb).step e b3
  obtain ⟨x5, q5, -, e, a5, b5, s5⟩ := (wr_int hb).step e b4
  obtain ⟨x6, q6, -, e, a6, b6, s6⟩ := (wr_word hb).step e b5
  obtain ⟨x7, q7, -, e, a7, b7, s7⟩ := (wr_num hb).step e b6
  obtain ⟨x8, q8, -, e, a8, b8, s8⟩ := (wr_num hb).step e b7
  obtain ⟨x9, q9, -, e, a9, b9, s9⟩ := (wr_int hb).step e b8
  obtain ⟨x10, q10, -, e, a10, b10, s10⟩ := (wr_int hb).step e b9
  obtain ⟨x11, q11, -, e, a11, b11, s11⟩ := (wr_flag hb).step e b10
  obtain ⟨x12, q12, -, e, a12, b12, s12⟩ := (wr_id hb).step e b11
  obtain ⟨x13, q13, -, e, a13, b13, s13⟩ := (wr_map hb).step e b12
  cases e
  refine ⟨by omega, by omega, ?_⟩
  rw [take_join bs (a := at_) (p := q1) (q := q) (by omega) (by omega), s1]
  rw [take_join bs (a := q1) (p := q2) (q := q) (by omega) (by omega), s2]
  rw [take_join bs (a := q2) (p := q3) (q := q) (by omega) (by omega), s3]
  rw [take_join bs (a := q3) (p := q4) (q := q) (by omega) (by omega), s4]
  rw [take_join bs (a := q4) (p := q5) (q := q) (by omega) (by omega), s5]
  rw [take_join bs (a := q5) (p := q6) (q := q) (by omega) (by omega), s6]
  rw [take_join bs (a := q6) (p := q7) (q := q) (by omega) (by omega), s7]
  rw [take_join bs (a := q7) (p := q8) (q := q) (by omega) (by omega), s8]
  rw [take_join bs (a := q8) (p := q9) (q := q) (by omega) (by omega), s9]
  rw [take_join bs (a := q9) (p := q10) (q := q) (by omega) (by omega), s10]
  rw [take_join bs (a := q10) (p := q11) (q := q) (by omega) (by omega), s11]
  rw [take_join bs (a := q11) (p := q12) (q := q) (by omega) (by omega), s12]
  rw [s13]
  simp only [pCmd, List.append_assoc]
theorem wr_ent {bs : List Nat} (hb : Byt bs) : Wrote bs (rEnt bs) pEnt := by
  refine ⟨fun at_ y q e hl => ?_⟩
  unfold rEnt at e
  obtain ⟨x1, q1, -, e, a1, b1, s1⟩ := (wr_num hb).step e hl
  obtain ⟨x2, q2, -, e, a2, b2, s2⟩ := (wr_num hb).step e b1
  obtain ⟨x3, q3, -, e, a3, b3, s3⟩ := (wr_int hb).step e b2
  obtain ⟨x4, q4, -, e, a4, b4, s4⟩ := (wr_cmd hb).step e b3
  obtain ⟨x5, q5, -, e, a5, b5, s5⟩ := (wr_conf hb).step e b4
  cases e
  refine ⟨by omega, by omega, ?_⟩
  rw [take_join bs (a := at_) (p := q1) (q := q) (by omega) (by omega), s1]
  rw [take_join bs (a := q1) (p := q2) (q := q) (by omega) (by omega), s2]
  rw [take_join bs (a := q2) (p := q3) (q := q) (by omega) (by omega), s3]
  rw [take_join bs (a := q3) (p := q4) (q := q) (by omega) (by omega), s4]
  rw [s5]
  simp only [pEnt, List.append_assoc]
end Go.Proofs.YthgiafjiemiifaaGreat
end
section
namespace Go.Proofs.YthgiafjiemiifaaGreat
open Go.RowKit OctMath
set_option linter.unusedVariables false
theorem pInt_len {x : Int} (h : I64 x) : (pInt x).length ≤ 10 := putN_len10 (zz_lt h.1 h.2)
set_option maxRecDepth 100000 in
set_option maxHeartbeats 1000000 in
theorem sh_int (H : Nat → Prop) (g : Nat) (xs : List Nat) (n : Int) (w : World) (hp : Hid (Sh H g xs w)) (hS : Hid (Safe H g w)) (hn : I64 n) (hl : xs.length ≤ 70000000000000) :
    Calls Tryz.prog 51 #[.pointer (some ⟨g, 0, none⟩), .int .i64 n] w (RetW H g (xs ++ pInt n) w) := by
  obtain ⟨n1, n2⟩ := hn
  by_cases hs : 0 ≤ n
  · go_enter Tryz.func51, Tryz.ntmps51
    go_wp2_with fail
    rw [zzx_pos hs n2]
    refine (sh_number H g xs (zz n) w hp hS (zz_lt n1 n2) hl).mono ?_
    rintro e w1 ⟨rfl, h⟩
    have HH := Lib.hid h
    clear h
    go_wp2
    go_end0
    exact ⟨rfl, HH.out⟩
  · go_enter Tryz.func51, Tryz.ntmps51
    go_wp2_with fail
    rw [zzx_neg n1 (by omega)]
    refine (sh_number H g xs (zz n) w hp hS (zz_lt n1 n2) hl).mono ?_
    rintro e w1 ⟨rfl, h⟩
    have HH := Lib.hid h
    clear h
    go_wp2
    go_end0
    exact ⟨rfl, HH.out⟩
set_option maxRecDepth 100000 in
set_option maxHeartbeats 1000000 in
theorem sh_flag (H : Nat → Prop) (g : Nat) (xs : List Nat) (b : Bool) (w : World) (hp : Hid (Sh H g xs w)) (hS : Hid (Safe H g w)) (hl : xs.length ≤ 70000000000000) :
    Calls Tryz.prog 79 #[.pointer (some ⟨g, 0, none⟩), .bool b] w (RetW H g (xs ++ pFlag b) w) := by
  cases b with
  | true =>
    have HC := Lib.hid (sh_number H g xs 1 w hp hS (by omega) hl)
    rw [putN_small (by omega)] at HC
    go_enter Tryz.func79, Tryz.ntmps79
    go_wp2_with (go_at_call 50; refine HC.out.mono ?_; rintro e w1 ⟨rfl, h⟩; have HH := Lib.hid h; clear h)
    exact bodyPost_ret (results_none rfl _ _ _) rfl ⟨rfl, HH.out⟩
  | false =>
    have HC := Lib.hid (sh_number H g xs 0 w hp hS (by omega) hl)
    rw [putN_small (by omega)] at HC
    go_enter Tryz.func79, Tryz.ntmps79
    go_wp2_with (go_at_call 50; refine HC.out.mono ?_; rintro e w1 ⟨rfl, h⟩; have HH := Lib.hid h; clear h)
    go_end0
    exact ⟨rfl, HH.out⟩
set_option maxRecDepth 100000 in
set_option maxHeartbeats 1000000 in
theorem sh_text (H : Nat → Prop) (g : Nat) (xs : List Nat) (x : List Nat) (w : World) (hp : Hid (Sh H g xs w)) (hS : Hid (Safe H g w)) (hx : (∀ y ∈ x, y < 256) ∧ x.length ≤ 1048576) (hl : xs.length + 1048586 ≤ 70000000000000) :
    Calls Tryz.prog 87 #[.pointer (some ⟨g, 0, none⟩), .string (strOf x)] w (RetW H g (xs ++ pText x) w) := by
  obtain ⟨ii, hi1, hi2, hi3, hi4⟩ := info_parts Tryz.infoU8
  have HII := Lib.hid (And.intro hi1 (And.intro hi2 (And.intro hi3 hi4)))
  clear hi1 hi2 hi3 hi4
  have hsz := strOf_size x
  have hoc := octs_strOf x hx.1
  obtain ⟨key, hkey⟩ : ∃ key, strOf x = key := ⟨_, rfl⟩
  rw [hkey] at hsz hoc ⊢
  have hx2 := hx.2
  have HSZ := Lib.hid hsz
  have HOC := Lib.hid hoc
  have e1 : IntKind.u64.wrap (key.size : Int) = (key.size : Int) := by rw [IntKind.wrap_u64]; omega
  have HC := Lib.hid (sh_number H g xs key.size w hp hS (by omega) (by omega))
  rw [hsz] at HC e1
  have HL := Lib.hid (show (xs ++ putN x.length).length + x.length ≤ 70000000000000 from by rw [List.length_append]; have := putN_len10 (n := x.length) (by omega); omega)
  clear hkey hoc hx
  obtain ⟨ks, hks⟩ : ∃ ks : Nat, x.length = ks := ⟨_, rfl⟩
  have HKS := Lib.hid hks
  rw [hks] at HC e1 HL HSZ hsz hx2
  clear hks
  go_enter Tryz.func87, Tryz.ntmps87
  go_wp2_with fail
  refine HC.out.mono ?_
  rintro e w1 ⟨rfl, h1, h2⟩
  have HS1 := Lib.hid (hS.out.keep h2)
  have HK1 := Lib.hid h2
  obtain ⟨pv, hB, hO, hg, hh⟩ := h1.out
  have z0 : w1.cell? ⟨g, 0, none⟩ = some pv := hB.cell 0
  have HB := Lib.hid hB
  have HO := Lib.hid hO
  have PG := Lib.hid hg
  have HH := Lib.hid hh
  clear hB hO hg hh h1 h2 HC e1 hsz hx2
  go_wp2_with (at_builtin
               refine wpList_append_text _ rfl _ _ 22 9 rfl 0 5 ii Tryz.underlying22 Tryz.underlying9 HII.out.1 HII.out.2.1 HII.out.2.2.1 HII.out.2.2.2 pv (xs ++ putN ks).length ((xs ++ putN ks).map bv) rfl HO.out key rfl (by have := HL.out; have := HSZ.out; unfold maxLen; omega) (by have := HL.out; have := HSZ.out; omega) (Nat.zero_le _) ?_
               intro v2 w2 o2 g2 n2
               obtain ⟨PA, pn, pc, rfl⟩ : ∃ PA pn pc, v2 = .slice PA pn pc := (by obtain ⟨x, y, e, _⟩ := own_slice o2; exact ⟨_, _, _, e⟩)
               rw [strCells_octs, HOC.out] at o2
               have HG := Lib.hid (Sh.grow (ys := x) HS1.out HB.out HO.out PG.out HH.out (Below.refl _ _) o2 (by rw [HSZ.out, HKS.out]) g2 n2)
               have z0 := HG.out.1.cell 0
               have z1 := HG.out.1.frozen 0
               clear o2 g2 n2)
  go_end0
  refine ⟨rfl, ?_, HK1.out.trans HG.out.2.2⟩
  have h := HG.out.2.1
  rw [List.append_assoc] at h
  unfold pText
  rw [HKS.out]
  exact h
theorem flat_take {α : Type} (put : α → List Nat) (l : List α) (z : α) (k : Nat) (h : k < l.length) : (l.take (k + 1)).flatMap put = (l.take k).flatMap put ++ put (l.getD k z) := by
  rw [List.take_succ_eq_append_getElem h, List.flatMap_append, List.getD_eq_getElem?_getD, List.getElem?_eq_getElem h]
  simp
theorem flat_len {α : Type} (put : α → List Nat) (c : Nat) : ∀ (l : List α), (∀ x ∈ l, (put x).length ≤ c) → (l.flatMap put).length ≤ c * l.length
  | [], _ => by simp
  | x :: l, h => by
    have h1 := h x (by simp)
    have h2 := flat_len put c l (fun y hy => h y (by simp [hy]))
    rw [List.flatMap_cons, List.length_append, List.length_cons, Nat.mul_succ]
    omega
theorem getD_in {α : Type} {P : α → Prop} {l : List α} (h : ∀ x ∈ l, P x) {k : Nat} (hk : k < l.length) (z : α) : P (l.getD k z) := by
  rw [List.getD_eq_getElem?_getD, List.getElem?_eq_getElem hk]
  exact h _ (List.getElem_mem hk)
set_option maxRecDepth 100000 in
set_option maxHeartbeats 2000000 in
theorem sh_ints (H : Nat → Prop) (g : Nat) (xs : List Nat) (A : Option Addr) (n cap : Nat) (l : List Int) (w : World) (hp : Hid (Sh H g xs w)) (hS : Hid (Safe H g w)) (hL : Hid (Reads w w.heap.size 1 A n (l.map iv))) (hH : Hid (0 < n → ∀ ad, A = some ad → H ad.block)) (hn : Hid (l.length = n)) (hn2 : n ≤ 1048576) (hI : Hid (∀ x ∈ l, I64 x)) (hl : xs.length + 10485770 ≤ 70000000000000) :
    Calls Tryz.prog 72 #[.pointer (some ⟨g, 0, none⟩), .slice A n cap, .func (.func 51) #[.pointer (some ⟨g, 0, none⟩)] #[]] w (RetW H g (xs ++ pList pInt l) w) := by
  have e1 : IntKind.u64.wrap (n : Int) = (n : Int) := by rw [IntKind.wrap_u64]; omega
  have HC := Lib.hid (sh_number H g xs n w hp hS (by omega) (by omega))
  have HN10 := Lib.hid (putN_len10 (n := n) (by omega))
  go_enter Tryz.func72, Tryz.ntmps72
  go_wp2_with fail
  refine HC.out.mono ?_
  rintro e w1 ⟨rfl, h1, h2⟩
  have HP1 := Lib.hid h1
  have HK1 := Lib.hid h2
  clear h1 h2 HC e1
  go_wp2
  go_loopw [7, 15] (fun vx vi wr => ∃ (k : Nat) (ys : List Nat), k ≤ n ∧ vi = .int .i64 k ∧ Hid (ys = xs ++ (putN n ++ (l.take k).flatMap pInt)) ∧ Hid (Sh H g ys wr) ∧ Hid (Keep H w wr)) (fun _ vi _ => n - (intOf vi).toNat)
  case atStart => exact ⟨0, xs ++ putN n, by omega, rfl, Lib.hid (by simp), HP1, HK1⟩
  case round =>
    obtain ⟨k, ys, hk, rfl, hy, hs, hkp⟩ := hrel
    by_cases hlt : k < n
    · have d1 : decide (k < n) = true := decide_eq_true hlt
      have hkl : k < l.length := by have := hn.out; omega
      have hyl : ys.length ≤ xs.length + 10 + 10 * k := by
        have h1 := flat_len pInt 10 (l.take k) (fun x hx => pInt_len (hI.out x (List.mem_of_mem_take hx)))
        rw [List.length_take] at h1
        have h3 := HN10.out
        rw [hy.out, List.length_append, List.length_append]
        have : 10 * min k l.length ≤ 10 * k := Nat.mul_le_mul_left _ (Nat.min_le_left _ _)
        omega
      have hyb : ys.length + 10 ≤ 70000000000000 := by omega
      clear hyl
      have HY2 := Lib.hid (show ys ++ pInt (l.getD k 0) = xs ++ (putN n ++ (l.take (k + 1)).flatMap pInt) from by rw [hy.out, flat_take pInt l 0 k hkl]; simp only [List.append_assoc])
      have hx := getD_in hI.out hkl 0
      have hr := hkp.out.reads hL.out hH.out
      obtain ⟨ad, hA, hbl, hc⟩ := hr.2 (by omega : 0 < n)
      subst hA
      have hck := hc k (iv (l.getD k 0)) (by rw [List.getElem?_map, List.getD_eq_getElem?_getD, List.getElem?_eq_getElem hkl]; rfl)
      obtain ⟨y, hy'⟩ : ∃ y, l.getD k 0 = y := ⟨_, rfl⟩
      rw [hy'] at hck hx HY2
      unfold iv at hck
      have HX := Lib.hid hx
      clear hy' hc hbl hr hx
      go_wp2_with (first
        | (go_at_call 51; refine (sh_int H g ys y wr hs (Lib.hid (hS.out.keep hkp.out)) HX.out (by omega)).mono ?_; rintro e w3 ⟨rfl, h3⟩; have HR := Lib.hid h3; have HKA := Lib.hid hkp.out; clear h3))
      exact ⟨⟨k + 1, _, by omega, by go_num, HY2, Lib.hid HR.out.1, Lib.hid (HKA.out.trans HR.out.2)⟩, by simp [intOf]; omega⟩
    · obtain rfl : k = n := by omega
      go_wp2
      go_end0
      refine ⟨rfl, ?_, hkp.out⟩
      unfold pList
      have h := hy.out
      rw [List.take_of_length_le (by rw [hn.out]; exact Nat.le_refl _)] at h
      rw [hn.out, ← h]
      exact hs.out
end Go.Proofs.YthgiafjiemiifaaGreat
end
