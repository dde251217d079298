/-
  THE REFERENCE: Put and Same of messages. (printed by gen_wirq3.py); What must come at any rate: the laws' heads. (joined out of WirQ3, WirH1 by shake.py)
-/
import Derived.Test.YtlnneacgllhdhaaGreatDoorWbk31
import Derived.Test.YtlnneacgllhdhaaGreatDoorWbk21
import Derived.Test.YtlnneacgllhdhaaGreatDoorWbk26
import Derived.Test.YtlnneacgllhdhaaGreatDoorWbk28
import Derived.Test.YtlnneacgllhdhaaGreatDoorWbk27
section
namespace Go.Proofs.YtlnneacgllhdhaaGreatDoor
open Go.RowKit OctMath
set_option linter.unusedVariables false
set_option linter.unusedSimpArgs false
theorem MgIn.later {w w' : World} {m : MG} (h : MgIn w m) (hb : Below w.heap.size w w') : MgIn w' m :=
  ⟨h.ents.later hb, fun e he => let g := h.each e he; ⟨g.r1.later hb, g.r2.later hb, g.r3.later hb, g.ok⟩, h.eq, h.vot.later hb, h.lea.later hb, h.data.later hb, h.names.later hb, h.ok⟩
theorem ls_of {g : Nat} {size n : Nat} {A : Option Addr} {xs : List Value} {ts : List Nat} {B : Nat} {w w' : World} (h : Reads w w.heap.size size A n xs) (hB : B = w.heap.size) (hb : Below B w w') (hP : Pen (fun k => k < B) g ts w') (hg : B ≤ g) : Ls (wMd g) size A n xs w' :=
  ⟨h.later (hB ▸ hb), fun h0 ad e => pen_free hP (by obtain ⟨ad1, e1, h1, -⟩ := h.2 h0; rw [e] at e1; injection e1 with e1; subst e1; rw [hB]; exact h1) (by rw [hB]; exact hb.size) hg⟩
theorem pText_byt {x : List Nat} (h : TxtOk x) : Byt (pText x) := byt_app (putN_byt _) h.1
theorem pMsg_byt {x : MsgT} (h : MsgOk x) : Byt (pMsg x) := by
  unfold pMsg
  have hf := pFlag_byt
  have hh : ∀ y ∈ pHd x.head, y < 256 := byt_app (pId_byt _) (byt_app (putN_byt _) (byt_app (putN_byt _) (byt_app (putN_byt _) (putN_byt _))))
  exact byt_app (putN_byt _) (byt_app (putN_byt _) (byt_app (putN_byt _) (byt_app (putN_byt _) (byt_app (putN_byt _) (byt_app (putN_byt _) (byt_app (putN_byt _) (byt_app (putN_byt _) (byt_app (hf _) (byt_app (hf _) (byt_app (pList_byt fun y hy => pEnt_byt (h.ents.1 y hy)) (byt_app (pConf_byt _) (byt_app hh (byt_app (pText_byt h.data) (byt_app (putN_byt _) (byt_app (putN_byt _) (byt_app (putN_byt _) (byt_app (pText_byt h.key) (byt_app (putN_byt _) (pList_byt fun y hy => pText_byt (h.names.1 y hy))))))))))))))))))))
set_option maxRecDepth 100000 in
set_option maxHeartbeats 8000000 in
theorem rput_msg (m : MG) (w : World) (hI : Hid (MgIn w m)) (hO : Hid (MsgOk m.x)) : Calls Tryz.prog 10 #[.agg (mgCs m)] w (RetO (pMsg m.x) w) := by
  obtain ⟨zs, hzs⟩ : ∃ zs, pMsg m.x = zs := ⟨_, rfl⟩
  have HPF := Lib.hid (fun (g : Nat) (w1 : World) hS hU => pw_fields g [] m w1 hS hU (Lib.hid hI.out.eq) hO (Lib.hid (by show 0 ≤ 1000000000000; omega)))
  rw [List.nil_append, hzs] at HPF
  have HZS := Lib.hid hzs
  rw [hzs]
  clear hzs
  have HI0 := hI
  obtain ⟨x, es, Ae, ce, Av, cv, Al, cl, Ad, cd, An, cn⟩ := m
  have he0 : mgCs ⟨x, es, Ae, ce, Av, cv, Al, cl, Ad, cd, An, cn⟩ = #[.int .i64 x.kind, .int .i64 x.from_, .int .i64 x.to_, .int .u64 (x.term : Int), .int .u64 (x.index : Int), .int .u64 (x.logTerm : Int), .int .u64 (x.commit : Int), .int .u64 (x.ctx : Int), .bool x.okf, .bool x.force, .slice Ae es.length ce, .slice Av x.vot.length cv, .slice Al x.lea.length cl, .int .u64 (x.head.id.ver : Int), .int .i64 x.head.id.idx, .int .u64 (x.head.id.ep : Int), .int .i64 x.head.k, .int .i64 x.head.n, .int .i64 x.head.size, .int .u32 (x.head.sum : Int), .slice Ad x.data.length cd, .int .u64 (x.client : Int), .int .u64 (x.seq : Int), .int .i64 x.op, .string (strOf x.key), .int .i64 x.code, .slice An x.names.length cn] := rfl
  rw [he0] at HPF ⊢
  clear he0
  obtain ⟨w0, ew0⟩ : ∃ w0, w.alloc (.cells #[.int .i64 x.kind, .int .i64 x.from_, .int .i64 x.to_, .int .u64 (x.term : Int), .int .u64 (x.index : Int), .int .u64 (x.logTerm : Int), .int .u64 (x.commit : Int), .int .u64 (x.ctx : Int), .bool x.okf, .bool x.force, .slice Ae es.length ce, .slice Av x.vot.length cv, .slice Al x.lea.length cl, .int .u64 (x.head.id.ver : Int), .int .i64 x.head.id.idx, .int .u64 (x.head.id.ep : Int), .int .i64 x.head.k, .int .i64 x.head.n, .int .i64 x.head.size, .int .u32 (x.head.sum : Int), .slice Ad x.data.length cd, .int .u64 (x.client : Int), .int .u64 (x.seq : Int), .int .i64 x.op, .string (strOf x.key), .int .i64 x.code, .slice An x.names.length cn] 38) = w0 := ⟨_, rfl⟩
  have hb : Below w.heap.size w (w.alloc (.cells #[.int .i64 x.kind, .int .i64 x.from_, .int .i64 x.to_, .int .u64 (x.term : Int), .int .u64 (x.index : Int), .int .u64 (x.logTerm : Int), .int .u64 (x.commit : Int), .int .u64 (x.ctx : Int), .bool x.okf, .bool x.force, .slice Ae es.length ce, .slice Av x.vot.length cv, .slice Al x.lea.length cl, .int .u64 (x.head.id.ver : Int), .int .i64 x.head.id.idx, .int .u64 (x.head.id.ep : Int), .int .i64 x.head.k, .int .i64 x.head.n, .int .i64 x.head.size, .int .u32 (x.head.sum : Int), .slice Ad x.data.length cd, .int .u64 (x.client : Int), .int .u64 (x.seq : Int), .int .i64 x.op, .string (strOf x.key), .int .i64 x.code, .slice An x.names.length cn] 38)) := (Below.refl _ _).alloc (Nat.le_refl _) _
  have hx : Blk (w.alloc (.cells #[.int .i64 x.kind, .int .i64 x.from_, .int .i64 x.to_, .int .u64 (x.term : Int), .int .u64 (x.index : Int), .int .u64 (x.logTerm : Int), .int .u64 (x.commit : Int), .int .u64 (x.ctx : Int), .bool x.okf, .bool x.force, .slice Ae es.length ce, .slice Av x.vot.length cv, .slice Al x.lea.length cl, .int .u64 (x.head.id.ver : Int), .int .i64 x.head.id.idx, .int .u64 (x.head.id.ep : Int), .int .i64 x.head.k, .int .i64 x.head.n, .int .i64 x.head.size, .int .u32 (x.head.sum : Int), .slice Ad x.data.length cd, .int .u64 (x.client : Int), .int .u64 (x.seq : Int), .int .i64 x.op, .string (strOf x.key), .int .i64 x.code, .slice An x.names.length cn] 38)) w.heap.size 38 #[.int .i64 x.kind, .int .i64 x.from_, .int .i64 x.to_, .int .u64 (x.term : Int), .int .u64 (x.index : Int), .int .u64 (x.logTerm : Int), .int .u64 (x.commit : Int), .int .u64 (x.ctx : Int), .bool x.okf, .bool x.force, .slice Ae es.length ce, .slice Av x.vot.length cv, .slice Al x.lea.length cl, .int .u64 (x.head.id.ver : Int), .int .i64 x.head.id.idx, .int .u64 (x.head.id.ep : Int), .int .i64 x.head.k, .int .i64 x.head.n, .int .i64 x.head.size, .int .u32 (x.head.sum : Int), .slice Ad x.data.length cd, .int .u64 (x.client : Int), .int .u64 (x.seq : Int), .int .i64 x.op, .string (strOf x.key), .int .i64 x.code, .slice An x.names.length cn] := Blk.new w _ _
  rw [ew0] at hb hx
  have HB0 := Lib.hid hb
  have HX0 := Lib.hid hx
  clear hb hx
  go_enter Tryz.func10, Tryz.ntmps10
  go_wp2_with (rw [ew0])
  refine (pen_writer none 0 0 [] _ Reads.none_ (by omega)).mono ?_
  rintro en w1 ⟨g, rfl, hg, hb, hp⟩
  have HB4 := Lib.hid (HB0.out.trans (hb.mono HB0.out.size))
  have HP1 := Lib.hid (hp.mono (H' := fun k => k < w.heap.size) (fun k hk => .inl (Nat.lt_of_lt_of_le hk HB0.out.size)))
  have HGE := Lib.hid (show w.heap.size ≤ g from Nat.le_trans HB0.out.size hg)
  have HX1 := Lib.hid (HX0.out.below hb HX0.out.lt)
  have HEMS : EmsL g w1.heap.size es w1 := fun e he => by
    have q := HI0.out.each e he
    have l1 := ls_of q.r1 rfl HB4.out HP1.out HGE.out
    have l2 := ls_of q.r2 rfl HB4.out HP1.out HGE.out
    have l3 := ls_of q.r3 rfl HB4.out HP1.out HGE.out
    exact ⟨l1, fun h0 ad e => (l1.free h0 ad e).lt, l2, fun h0 ad e => (l2.free h0 ad e).lt, l3, fun h0 ad e => (l3.free h0 ad e).lt⟩
  have HU : Hid (MgL g w1.heap.size ⟨x, es, Ae, ce, Av, cv, Al, cl, Ad, cd, An, cn⟩ w1) := Lib.hid ⟨ls_of HI0.out.ents rfl HB4.out HP1.out HGE.out, HEMS, ls_of HI0.out.vot rfl HB4.out HP1.out HGE.out, ls_of HI0.out.lea rfl HB4.out HP1.out HGE.out, ls_of HI0.out.data rfl HB4.out HP1.out HGE.out, ls_of HI0.out.names rfl HB4.out HP1.out HGE.out⟩
  clear hg hb hp ew0 HEMS
  go_wp2_with (first
    | (refine wpl_load_blk rfl 38 (.tmp 1) rfl w.heap.size 38 _ _ rfl HX1.out Tryz.underlying38 rfl sizeMsg ?_)
    | (go_at_call 31; refine (HPF.out g w1 (Lib.hid (HP1.out.mono (fun _ h => h.elim))) HU).mono ?_; rintro en w2 ⟨⟨vf, rfl⟩, hs, hk⟩
       have hs : Pen (fun _ => False) g zs w2 := hs
       have HK := Lib.hid hk
       have HS := Lib.hid hs
       clear hs hk)
    | (go_at_call 32; refine (pen_written _ g zs w2 HS.out).mono ?_; rintro en w3 ⟨⟨A9, c9, rfl, hr⟩, rfl⟩; have HR := Lib.hid hr; clear hr))
  go_ret
  exact ⟨_, _, rfl, HR.out, HB4.out.trans (stp_below HK.out HB4.out.size (fun k hk => (pen_free HP1.out hk HB4.out.size HGE.out).wr))⟩
set_option maxRecDepth 100000 in
set_option maxHeartbeats 8000000 in
/-- Messages are the same if they are put as the same bytes. -/
theorem rsame_msg (a b : MG) (w : World) (hA : Hid (MgIn w a)) (hAO : Hid (MsgOk a.x)) (hB : Hid (MgIn w b)) (hBO : Hid (MsgOk b.x)) : Calls Tryz.prog 22 #[.agg (mgCs a), .agg (mgCs b)] w (fun e w' => e = .returned (.bool (decide (pMsg a.x = pMsg b.x))) ∧ Below w.heap.size w w') := by
  have HP1 := Lib.hid (fun W k => rput_msg a W k hAO)
  have HP2 := Lib.hid (fun W k => rput_msg b W k hBO)
  have hby1 : Byt (pMsg a.x) := pMsg_byt hAO.out
  have hby2 : Byt (pMsg b.x) := pMsg_byt hBO.out
  obtain ⟨ys, hys⟩ : ∃ ys, pMsg a.x = ys := ⟨_, rfl⟩
  obtain ⟨zs, hzs⟩ : ∃ zs, pMsg b.x = zs := ⟨_, rfl⟩
  rw [hys] at HP1 hby1 ⊢
  rw [hzs] at HP2 hby2 ⊢
  have H3 := Lib.hid (show ((strOf ys).toList == (strOf zs).toList) = decide (ys = zs) from strOf_beq hby1 hby2)
  clear hys hzs hAO hBO hby1 hby2
  obtain ⟨x1, es1, Ae1, ce1, Av1, cv1, Al1, cl1, Ad1, cd1, An1, cn1⟩ := a
  obtain ⟨x2, es2, Ae2, ce2, Av2, cv2, Al2, cl2, Ad2, cd2, An2, cn2⟩ := b
  have he1 : mgCs ⟨x1, es1, Ae1, ce1, Av1, cv1, Al1, cl1, Ad1, cd1, An1, cn1⟩ = #[.int .i64 x1.kind, .int .i64 x1.from_, .int .i64 x1.to_, .int .u64 (x1.term : Int), .int .u64 (x1.index : Int), .int .u64 (x1.logTerm : Int), .int .u64 (x1.commit : Int), .int .u64 (x1.ctx : Int), .bool x1.okf, .bool x1.force, .slice Ae1 es1.length ce1, .slice Av1 x1.vot.length cv1, .slice Al1 x1.lea.length cl1, .int .u64 (x1.head.id.ver : Int), .int .i64 x1.head.id.idx, .int .u64 (x1.head.id.ep : Int), .int .i64 x1.head.k, .int .i64 x1.head.n, .int .i64 x1.head.size, .int .u32 (x1.head.sum : Int), .slice Ad1 x1.data.length cd1, .int .u64 (x1.client : Int), .int .u64 (x1.seq : Int), .int .i64 x1.op, .string (strOf x1.key), .int .i64 x1.code, .slice An1 x1.names.length cn1] := rfl
  have he2 : mgCs ⟨x2, es2, Ae2, ce2, Av2, cv2, Al2, cl2, Ad2, cd2, An2, cn2⟩ = #[.int .i64 x2.kind, .int .i64 x2.from_, .int .i64 x2.to_, .int .u64 (x2.term : Int), .int .u64 (x2.index : Int), .int .u64 (x2.logTerm : Int), .int .u64 (x2.commit : Int), .int .u64 (x2.ctx : Int), .bool x2.okf, .bool x2.force, .slice Ae2 es2.length ce2, .slice Av2 x2.vot.length cv2, .slice Al2 x2.lea.length cl2, .int .u64 (x2.head.id.ver : Int), .int .i64 x2.head.id.idx, .int .u64 (x2.head.id.ep : Int), .int .i64 x2.head.k, .int .i64 x2.head.n, .int .i64 x2.head.size, .int .u32 (x2.head.sum : Int), .slice Ad2 x2.data.length cd2, .int .u64 (x2.client : Int), .int .u64 (x2.seq : Int), .int .i64 x2.op, .string (strOf x2.key), .int .i64 x2.code, .slice An2 x2.names.length cn2] := rfl
  rw [he1] at HP1 ⊢
  rw [he2] at HP2 ⊢
  clear he1 he2
  have b1 := Lib.hid ((Blk.new w 38 #[.int .i64 x1.kind, .int .i64 x1.from_, .int .i64 x1.to_, .int .u64 (x1.term : Int), .int .u64 (x1.index : Int), .int .u64 (x1.logTerm : Int), .int .u64 (x1.commit : Int), .int .u64 (x1.ctx : Int), .bool x1.okf, .bool x1.force, .slice Ae1 es1.length ce1, .slice Av1 x1.vot.length cv1, .slice Al1 x1.lea.length cl1, .int .u64 (x1.head.id.ver : Int), .int .i64 x1.head.id.idx, .int .u64 (x1.head.id.ep : Int), .int .i64 x1.head.k, .int .i64 x1.head.n, .int .i64 x1.head.size, .int .u32 (x1.head.sum : Int), .slice Ad1 x1.data.length cd1, .int .u64 (x1.client : Int), .int .u64 (x1.seq : Int), .int .i64 x1.op, .string (strOf x1.key), .int .i64 x1.code, .slice An1 x1.names.length cn1]).alloc (.cells #[.int .i64 x2.kind, .int .i64 x2.from_, .int .i64 x2.to_, .int .u64 (x2.term : Int), .int .u64 (x2.index : Int), .int .u64 (x2.logTerm : Int), .int .u64 (x2.commit : Int), .int .u64 (x2.ctx : Int), .bool x2.okf, .bool x2.force, .slice Ae2 es2.length ce2, .slice Av2 x2.vot.length cv2, .slice Al2 x2.lea.length cl2, .int .u64 (x2.head.id.ver : Int), .int .i64 x2.head.id.idx, .int .u64 (x2.head.id.ep : Int), .int .i64 x2.head.k, .int .i64 x2.head.n, .int .i64 x2.head.size, .int .u32 (x2.head.sum : Int), .slice Ad2 x2.data.length cd2, .int .u64 (x2.client : Int), .int .u64 (x2.seq : Int), .int .i64 x2.op, .string (strOf x2.key), .int .i64 x2.code, .slice An2 x2.names.length cn2] 38))
  have b2 := Lib.hid (Blk.new (w.alloc (.cells #[.int .i64 x1.kind, .int .i64 x1.from_, .int .i64 x1.to_, .int .u64 (x1.term : Int), .int .u64 (x1.index : Int), .int .u64 (x1.logTerm : Int), .int .u64 (x1.commit : Int), .int .u64 (x1.ctx : Int), .bool x1.okf, .bool x1.force, .slice Ae1 es1.length ce1, .slice Av1 x1.vot.length cv1, .slice Al1 x1.lea.length cl1, .int .u64 (x1.head.id.ver : Int), .int .i64 x1.head.id.idx, .int .u64 (x1.head.id.ep : Int), .int .i64 x1.head.k, .int .i64 x1.head.n, .int .i64 x1.head.size, .int .u32 (x1.head.sum : Int), .slice Ad1 x1.data.length cd1, .int .u64 (x1.client : Int), .int .u64 (x1.seq : Int), .int .i64 x1.op, .string (strOf x1.key), .int .i64 x1.code, .slice An1 x1.names.length cn1] 38)) 38 #[.int .i64 x2.kind, .int .i64 x2.from_, .int .i64 x2.to_, .int .u64 (x2.term : Int), .int .u64 (x2.index : Int), .int .u64 (x2.logTerm : Int), .int .u64 (x2.commit : Int), .int .u64 (x2.ctx : Int), .bool x2.okf, .bool x2.force, .slice Ae2 es2.length ce2, .slice Av2 x2.vot.length cv2, .slice Al2 x2.lea.length cl2, .int .u64 (x2.head.id.ver : Int), .int .i64 x2.head.id.idx, .int .u64 (x2.head.id.ep : Int), .int .i64 x2.head.k, .int .i64 x2.head.n, .int .i64 x2.head.size, .int .u32 (x2.head.sum : Int), .slice Ad2 x2.data.length cd2, .int .u64 (x2.client : Int), .int .u64 (x2.seq : Int), .int .i64 x2.op, .string (strOf x2.key), .int .i64 x2.code, .slice An2 x2.names.length cn2])
  have n1 := Lib.hid (((Below.refl w.heap.size w).alloc (Nat.le_refl _) (.cells #[.int .i64 x1.kind, .int .i64 x1.from_, .int .i64 x1.to_, .int .u64 (x1.term : Int), .int .u64 (x1.index : Int), .int .u64 (x1.logTerm : Int), .int .u64 (x1.commit : Int), .int .u64 (x1.ctx : Int), .bool x1.okf, .bool x1.force, .slice Ae1 es1.length ce1, .slice Av1 x1.vot.length cv1, .slice Al1 x1.lea.length cl1, .int .u64 (x1.head.id.ver : Int), .int .i64 x1.head.id.idx, .int .u64 (x1.head.id.ep : Int), .int .i64 x1.head.k, .int .i64 x1.head.n, .int .i64 x1.head.size, .int .u32 (x1.head.sum : Int), .slice Ad1 x1.data.length cd1, .int .u64 (x1.client : Int), .int .u64 (x1.seq : Int), .int .i64 x1.op, .string (strOf x1.key), .int .i64 x1.code, .slice An1 x1.names.length cn1] 38)).alloc (by simp) (.cells #[.int .i64 x2.kind, .int .i64 x2.from_, .int .i64 x2.to_, .int .u64 (x2.term : Int), .int .u64 (x2.index : Int), .int .u64 (x2.logTerm : Int), .int .u64 (x2.commit : Int), .int .u64 (x2.ctx : Int), .bool x2.okf, .bool x2.force, .slice Ae2 es2.length ce2, .slice Av2 x2.vot.length cv2, .slice Al2 x2.lea.length cl2, .int .u64 (x2.head.id.ver : Int), .int .i64 x2.head.id.idx, .int .u64 (x2.head.id.ep : Int), .int .i64 x2.head.k, .int .i64 x2.head.n, .int .i64 x2.head.size, .int .u32 (x2.head.sum : Int), .slice Ad2 x2.data.length cd2, .int .u64 (x2.client : Int), .int .u64 (x2.seq : Int), .int .i64 x2.op, .string (strOf x2.key), .int .i64 x2.code, .slice An2 x2.names.length cn2] 38))
  have es : (w.alloc (.cells #[.int .i64 x1.kind, .int .i64 x1.from_, .int .i64 x1.to_, .int .u64 (x1.term : Int), .int .u64 (x1.index : Int), .int .u64 (x1.logTerm : Int), .int .u64 (x1.commit : Int), .int .u64 (x1.ctx : Int), .bool x1.okf, .bool x1.force, .slice Ae1 es1.length ce1, .slice Av1 x1.vot.length cv1, .slice Al1 x1.lea.length cl1, .int .u64 (x1.head.id.ver : Int), .int .i64 x1.head.id.idx, .int .u64 (x1.head.id.ep : Int), .int .i64 x1.head.k, .int .i64 x1.head.n, .int .i64 x1.head.size, .int .u32 (x1.head.sum : Int), .slice Ad1 x1.data.length cd1, .int .u64 (x1.client : Int), .int .u64 (x1.seq : Int), .int .i64 x1.op, .string (strOf x1.key), .int .i64 x1.code, .slice An1 x1.names.length cn1] 38)).heap.size = w.heap.size + 1 := by simp
  rw [es] at b2
  go_enter Tryz.func22, Tryz.ntmps22
  go_wp2
  obtain ⟨W, hW⟩ : ∃ W, (w.alloc (.cells #[.int .i64 x1.kind, .int .i64 x1.from_, .int .i64 x1.to_, .int .u64 (x1.term : Int), .int .u64 (x1.index : Int), .int .u64 (x1.logTerm : Int), .int .u64 (x1.commit : Int), .int .u64 (x1.ctx : Int), .bool x1.okf, .bool x1.force, .slice Ae1 es1.length ce1, .slice Av1 x1.vot.length cv1, .slice Al1 x1.lea.length cl1, .int .u64 (x1.head.id.ver : Int), .int .i64 x1.head.id.idx, .int .u64 (x1.head.id.ep : Int), .int .i64 x1.head.k, .int .i64 x1.head.n, .int .i64 x1.head.size, .int .u32 (x1.head.sum : Int), .slice Ad1 x1.data.length cd1, .int .u64 (x1.client : Int), .int .u64 (x1.seq : Int), .int .i64 x1.op, .string (strOf x1.key), .int .i64 x1.code, .slice An1 x1.names.length cn1] 38)).alloc (.cells #[.int .i64 x2.kind, .int .i64 x2.from_, .int .i64 x2.to_, .int .u64 (x2.term : Int), .int .u64 (x2.index : Int), .int .u64 (x2.logTerm : Int), .int .u64 (x2.commit : Int), .int .u64 (x2.ctx : Int), .bool x2.okf, .bool x2.force, .slice Ae2 es2.length ce2, .slice Av2 x2.vot.length cv2, .slice Al2 x2.lea.length cl2, .int .u64 (x2.head.id.ver : Int), .int .i64 x2.head.id.idx, .int .u64 (x2.head.id.ep : Int), .int .i64 x2.head.k, .int .i64 x2.head.n, .int .i64 x2.head.size, .int .u32 (x2.head.sum : Int), .slice Ad2 x2.data.length cd2, .int .u64 (x2.client : Int), .int .u64 (x2.seq : Int), .int .i64 x2.op, .string (strOf x2.key), .int .i64 x2.code, .slice An2 x2.names.length cn2] 38) = W := ⟨_, rfl⟩
  rw [hW] at b1 b2 n1 ⊢
  clear hW es
  obtain ⟨c1, e1⟩ : ∃ c : Array Value, #[.int .i64 x1.kind, .int .i64 x1.from_, .int .i64 x1.to_, .int .u64 (x1.term : Int), .int .u64 (x1.index : Int), .int .u64 (x1.logTerm : Int), .int .u64 (x1.commit : Int), .int .u64 (x1.ctx : Int), .bool x1.okf, .bool x1.force, .slice Ae1 es1.length ce1, .slice Av1 x1.vot.length cv1, .slice Al1 x1.lea.length cl1, .int .u64 (x1.head.id.ver : Int), .int .i64 x1.head.id.idx, .int .u64 (x1.head.id.ep : Int), .int .i64 x1.head.k, .int .i64 x1.head.n, .int .i64 x1.head.size, .int .u32 (x1.head.sum : Int), .slice Ad1 x1.data.length cd1, .int .u64 (x1.client : Int), .int .u64 (x1.seq : Int), .int .i64 x1.op, .string (strOf x1.key), .int .i64 x1.code, .slice An1 x1.names.length cn1] = c := ⟨_, rfl⟩
  have z1 : c1.size = 27 := by rw [← e1]; rfl
  rw [e1] at b1 HP1
  obtain ⟨c2, e2⟩ : ∃ c : Array Value, #[.int .i64 x2.kind, .int .i64 x2.from_, .int .i64 x2.to_, .int .u64 (x2.term : Int), .int .u64 (x2.index : Int), .int .u64 (x2.logTerm : Int), .int .u64 (x2.commit : Int), .int .u64 (x2.ctx : Int), .bool x2.okf, .bool x2.force, .slice Ae2 es2.length ce2, .slice Av2 x2.vot.length cv2, .slice Al2 x2.lea.length cl2, .int .u64 (x2.head.id.ver : Int), .int .i64 x2.head.id.idx, .int .u64 (x2.head.id.ep : Int), .int .i64 x2.head.k, .int .i64 x2.head.n, .int .i64 x2.head.size, .int .u32 (x2.head.sum : Int), .slice Ad2 x2.data.length cd2, .int .u64 (x2.client : Int), .int .u64 (x2.seq : Int), .int .i64 x2.op, .string (strOf x2.key), .int .i64 x2.code, .slice An2 x2.names.length cn2] = c := ⟨_, rfl⟩
  have z2 : c2.size = 27 := by rw [← e2]; rfl
  rw [e2] at b2 HP2
  clear e1 e2
  refine wp_region_late (S0 := fun _ => True) (S := fun w' => Blk w' w.heap.size 38 c1 ∧ Blk w' (w.heap.size + 1) 38 c2) 7 8 (by kernel_rfl) rfl ⟨trivial, b1.out.drew, b2.out.drew⟩ (fun wd hwd hH => ?_)
  have nd := Lib.hid (show Below w.heap.size w wd from by rw [hwd]; exact n1.out.drew)
  clear hwd b1 b2 n1
  refine wpAnyT_take 0 rfl (by kernel_rfl) (fun _ _ _ h => h) (yields_load_blk rfl 38 (.tmp 2) rfl w.heap.size 38 c1 _ rfl (fun w' hw' => hw'.1) Tryz.underlying38 rfl (by rw [z1]; exact sizeMsg)) hH ?_
  try simp only [Act.put, List.setIfInBounds_toArray, List.set_cons_zero, List.set_cons_succ]
  refine wpAnyT_take 3 rfl (by kernel_rfl) (fun _ _ _ h => h) (yields_load_blk rfl 38 (.tmp 3) rfl (w.heap.size + 1) 38 c2 _ rfl (fun w' hw' => hw'.2) Tryz.underlying38 rfl (by rw [z2]; exact sizeMsg)) hH ?_
  try simp only [Act.put, List.setIfInBounds_toArray, List.set_cons_zero, List.set_cons_succ]
  refine wpAnyT_one 1 rfl (by kernel_rfl) (fun K hQ => ?_)
  go_simp
  (go_at_call 10; refine (HP1.out _ (Lib.hid (hA.out.later nd.out))).mono ?_; rintro e w1 ⟨A7, cap1, rfl, r1, hb⟩; have R1 := Lib.hid r1; have HB1 := Lib.hid hb; clear r1 hb)
  refine hQ.out _ _ ⟨trivial, hH.2.1.below HB1.out hH.2.1.lt, hH.2.2.below HB1.out hH.2.2.lt⟩ (fun hH1 => ?_)
  clear hQ K
  try simp only [Act.put, List.setIfInBounds_toArray, List.set_cons_zero, List.set_cons_succ]
  refine wpAnyT_mono (S0' := fun w' => Reads w' w'.heap.size 1 A7 ys.length (ys.map bv)) (S' := fun w' => Blk w' w.heap.size 38 c1 ∧ Blk w' (w.heap.size + 1) 38 c2) (fun _ _ => trivial) (fun _ h => h) _ _ _ _ ?_
  refine wpAnyT_stay 2 (v := ?_) rfl (by kernel_rfl) (fun _ _ _ h => h) (Or.inl ⟨by rfl, ?_⟩) ⟨R1.out, fun _ => hH1.2⟩ ?_
  rotate_left
  · (intro wx hx; have kc := run_conv_bytes (P := Tryz.prog) (src := 33) (dst := 9) (cap := cap1) Tryz.underlying33 Tryz.underlying5 Tryz.underlying9 hx; go_simp <;> with_reducible rfl)
  try simp only [Act.put, List.setIfInBounds_toArray, List.set_cons_zero, List.set_cons_succ]
  refine wpAnyT_one 4 rfl (by kernel_rfl) (fun K hQ => ?_)
  go_simp
  (go_at_call 10; refine (HP2.out _ (Lib.hid (hB.out.later (nd.out.trans (HB1.out.mono nd.out.size))))).mono ?_; rintro e w2 ⟨A8, cap2, rfl, r2, hb⟩; have R2 := Lib.hid r2; have HB2 := Lib.hid hb; clear r2 hb)
  refine hQ.out _ _ ⟨R1.out.later HB2.out, hH1.2.1.below HB2.out hH1.2.1.lt, hH1.2.2.below HB2.out hH1.2.2.lt⟩ (fun hH2 => ?_)
  clear hQ K
  try simp only [Act.put, List.setIfInBounds_toArray, List.set_cons_zero, List.set_cons_succ]
  refine wpAnyT_mono (S0' := fun w' => Reads w' w'.heap.size 1 A8 zs.length (zs.map bv) ∧ Reads w' w'.heap.size 1 A7 ys.length (ys.map bv)) (S' := fun w' => Blk w' w.heap.size 38 c1 ∧ Blk w' (w.heap.size + 1) 38 c2) (fun _ h => h.2) (fun _ h => h) _ _ _ _ ?_
  refine wpAnyT_stay 5 (v := ?_) rfl (by kernel_rfl) (fun _ _ _ h => h) (Or.inl ⟨by rfl, ?_⟩) ⟨⟨R2.out, hH2.1⟩, fun _ => hH2.2⟩ ?_
  rotate_left
  · (intro wx hx; have kc := run_conv_bytes (P := Tryz.prog) (src := 33) (dst := 9) (cap := cap2) Tryz.underlying33 Tryz.underlying5 Tryz.underlying9 hx.1; go_simp <;> with_reducible rfl)
  try simp only [Act.put, List.setIfInBounds_toArray, List.set_cons_zero, List.set_cons_succ]
  refine wpAnyT_stay 6 (v := ?_) rfl (by kernel_rfl) (fun _ _ _ h => h) (Or.inl ⟨by rfl, ?_⟩) ⟨⟨R2.out, hH2.1⟩, fun _ => hH2.2⟩ ?_
  rotate_left
  · (intro wx hx; have h3 := H3.out; go_simp <;> with_reducible rfl)
  try simp only [Act.put, List.setIfInBounds_toArray, List.set_cons_zero, List.set_cons_succ]
  refine wpAnyT_last 7 rfl (by kernel_rfl) (by decide) (fun K hQ => ?_)
  go_simp
  refine hQ.out _ _ ⟨R2.out, hH2.1⟩ (fun hH7 => ?_)
  clear hQ K
  try simp only [Act.put, List.setIfInBounds_toArray, List.set_cons_zero, List.set_cons_succ]
  refine wpAnyT_done (by kernel_rfl) ?_ _
  clear hH hH1 hH2 hH7
  go_wp2
  go_ret
  exact ⟨rfl, (nd.out.trans (HB1.out.mono nd.out.size)).trans (HB2.out.mono (Nat.le_trans nd.out.size HB1.out.size))⟩
end Go.Proofs.YtlnneacgllhdhaaGreatDoor
end
section
namespace Go.Proofs.YtlnneacgllhdhaaGreatDoor
open Go.RowKit OctMath
set_option linter.unusedVariables false
set_option linter.unusedSimpArgs false
def pingT : MsgT := ⟨18, 1, 2, 0, 0, 0, 0, 3, false, false, [], [], [], hdZ, [], 0, 0, 0, [], 0, []⟩
theorem ping_put : pMsg pingT = pingB := by
  simp [pMsg, pingT, hdZ, pInt, zz, pConf, pList, pHd, pId, pText, pFlag, putN_small, pingB]
theorem ping_ok : MsgOk pingT := by
  refine ⟨?_, ?_, ?_, ?_, ?_, ?_, ?_, ?_, ?_, ?_, ?_, ?_, ?_, ?_, ?_, ?_, ?_, ?_⟩
  all_goals first | decide | (refine ⟨?_, ?_⟩ <;> first | decide | (intro y h; cases h) | (refine ⟨?_, ?_⟩ <;> first | decide | (intro y h; cases h))) | (constructor <;> decide) | skip
theorem ping_read : rMsg pingB 0 = some (pingT, 27) := by
  have h := (got_msg ping_ok).rd [] []
  rw [ping_put] at h
  simpa [pingB] using h
def heads_post (w : World) (e : Ending) (w' : World) : Prop := e = .returned (.bool true) ∧ Below w.heap.size w w'
theorem wpl_want2 {P : Program} {ops : Array Oper} {Q : Exit → Act → World → Prop} {rest : List Oper} {o : Oper} {a : Act} {w : World} (hw : Region.wanted o (yielded ops a.tmps) = true) (h : o.wp P a w (wpList P ops Q rest) Q) : wpList P ops Q (o :: rest) a w := by
  unfold wpList
  rw [if_pos hw]
  exact .inl h
theorem wp_load_blk2 {P : Program} {op : Oper} {a : Act} {w : World} {K : Act → World → Prop} {Q : Exit → Act → World → Prop} (ty : TypeId) (x : Operand) (ho : op.op = .load ty x)
    (g : Nat) (t : TypeId) (cs : Array Value) (d : TypeDesc) (hx : a.eval x = .pointer (some ⟨g, 0, none⟩)) (hB : Blk w g t cs) (hu : P.underlying ty = some d) (hd : d.isRow = true) (hi : (P.info? ty).map (·.size) = some cs.size)
    (h : K (a.put op.dst (.agg cs)) w) : op.wp P a w K Q :=
  wp_load_mid ty x ho g 0 hx cs.toList d (fun j v hv => by rw [Nat.zero_add, hB.cell]; simpa using hv) hu hd (by simpa using hi) (by simpa using h)
theorem seal_byt {b : List Nat} (hb : ∀ x ∈ b, x < 256) : ∀ x ∈ seal_ b, x < 256 := fun x hx => by
  unfold seal_ at hx
  rcases List.mem_append.1 hx with h | h
  · exact hb x h
  · exact wordL_byt _ (crc_lt hb) x h
theorem fr_byt {b : List Nat} (hb : ∀ x ∈ b, x < 256) (hl : b.length ≤ 4194304) : Byt (fr b) := fun x hx => by
  unfold fr at hx
  rcases List.mem_append.1 hx with h | h
  · exact seal_byt (wordL_byt' hl) x h
  · exact seal_byt hb x h
theorem frAt97 : frAt (fr [97]) 0 = (0, [97], 13) := by
  have h := nxt_fr (b := [97]) (by simp) (by simp) []
  rw [List.append_nil] at h
  have h2 := frAt_ok (xs := fr [97]) (p := 0) (by simp) (by rw [List.drop_zero, h])
  rw [List.drop_zero, h] at h2
  exact h2
theorem frAtNil : frAt [] 0 = (40, [], 0) := by
  have e : nxt ([] : List Nat) = (40, []) := nxt_bad (s := []) (by decide)
  have h2 := frAt_bad (xs := []) (p := 0) (by simp) (by rw [List.drop_zero, e]; decide)
  rw [List.drop_zero, e] at h2
  exact h2
set_option maxRecDepth 100000 in
set_option maxHeartbeats 8000000 in
theorem heads_any (w : World) (hg : Hid (GE w)) : Calls Tryz.prog 13 #[] w (heads_post w) := by
  have HG0 := hg
  obtain ⟨wa, ea⟩ : ∃ wa, w.alloc (.cells #[.int .u8 97] 5) = wa := ⟨_, rfl⟩
  have hba : Below w.heap.size w (w.alloc (.cells #[.int .u8 97] 5)) := (Below.refl _ _).alloc (Nat.le_refl _) _
  have hra := Reads.lit w 5 [.int .u8 97] 1 1 rfl
  have hsa : (w.alloc (.cells #[.int .u8 97] 5)).heap.size = w.heap.size + 1 := by simp
  rw [ea] at hba hra hsa
  have HF := Lib.hid (Frame_any (some ⟨w.heap.size, 0, none⟩) 1 1 [97] wa (Lib.hid ⟨by rw [hsa]; exact hra, by intro x hx; simp at hx; omega, Nat.le_refl _, by unfold maxLen; omega⟩))
  have KA := Lib.hid hba
  clear hba hra hsa
  go_enter Tryz.func13, Tryz.ntmps13
  go_wp2_with (rw [ea])
  clear ea
  refine HF.out.mono ?_
  rintro e w1 ⟨hb, h1⟩
  rw [if_neg (by decide)] at h1
  obtain ⟨v1, rfl, ho⟩ := h1
  obtain ⟨A1, c1, rfl, hc1, hc2⟩ := own_slice ho
  have K1 := Lib.hid (KA.out.trans (hb.mono KA.out.size))
  have R1 : Hid (RdB w1 A1 13 c1 (fr [97])) := Lib.hid ⟨Reads.of_own ho, fr_byt (by simp) (by simp), hc1, hc2⟩
  clear hb ho hc1 hc2 HF KA
  go_wp2_with fail
  refine (Next_any A1 13 c1 (fr [97]) 0 w1 R1 (Lib.hid (hg.out.later K1.out)) (by omega)).mono ?_
  rintro e w2 ⟨hb, A2, n2, c2, rfl, r2⟩
  rw [frAt97] at r2
  simp only [frAt97]
  have hn2 := r2.len
  simp only [List.length_singleton] at hn2
  subst hn2
  have K2 := Lib.hid (K1.out.trans (hb.mono K1.out.size))
  have R2 := Lib.hid r2
  clear hb r2 K1 R1
  go_wp2_with fail
  refine (Next_any none 0 0 [] 0 w2 (Lib.hid (rdb_nil _)) (Lib.hid (hg.out.later K2.out)) (by omega)).mono ?_
  rintro e w3 ⟨hb, A3, n3, c3, rfl, r3⟩
  simp only [frAtNil]
  have K3 := Lib.hid (K2.out.trans (hb.mono K2.out.size))
  have R3 := Lib.hid (R2.out.later hb)
  clear hb r3 K2 R2
  obtain ⟨b, eb⟩ : ∃ b, w3.heap.size = b := ⟨_, rfl⟩
  have hB : Blk (w3.alloc (.cells #[.int .i64 0, .int .i64 0, .int .i64 0, .int .u64 0, .int .u64 0, .int .u64 0, .int .u64 0, .int .u64 0, .bool false, .bool false, .slice none 0 0, .slice none 0 0, .slice none 0 0, .int .u64 0, .int .i64 0, .int .u64 0, .int .i64 0, .int .i64 0, .int .i64 0, .int .u32 0, .slice none 0 0, .int .u64 0, .int .u64 0, .int .i64 0, .string ⟨#[]⟩, .int .i64 0, .slice none 0 0] 38)) w3.heap.size 38 #[.int .i64 0, .int .i64 0, .int .i64 0, .int .u64 0, .int .u64 0, .int .u64 0, .int .u64 0, .int .u64 0, .bool false, .bool false, .slice none 0 0, .slice none 0 0, .slice none 0 0, .int .u64 0, .int .i64 0, .int .u64 0, .int .i64 0, .int .i64 0, .int .i64 0, .int .u32 0, .slice none 0 0, .int .u64 0, .int .u64 0, .int .i64 0, .string ⟨#[]⟩, .int .i64 0, .slice none 0 0] := Blk.new w3 _ _
  have hb : Below w3.heap.size w3 (w3.alloc (.cells #[.int .i64 0, .int .i64 0, .int .i64 0, .int .u64 0, .int .u64 0, .int .u64 0, .int .u64 0, .int .u64 0, .bool false, .bool false, .slice none 0 0, .slice none 0 0, .slice none 0 0, .int .u64 0, .int .i64 0, .int .u64 0, .int .i64 0, .int .i64 0, .int .i64 0, .int .u32 0, .slice none 0 0, .int .u64 0, .int .u64 0, .int .i64 0, .string ⟨#[]⟩, .int .i64 0, .slice none 0 0] 38)) := (Below.refl _ _).alloc (Nat.le_refl _) _
  obtain ⟨w4, ew4⟩ : ∃ w4, w3.alloc (.cells #[.int .i64 0, .int .i64 0, .int .i64 0, .int .u64 0, .int .u64 0, .int .u64 0, .int .u64 0, .int .u64 0, .bool false, .bool false, .slice none 0 0, .slice none 0 0, .slice none 0 0, .int .u64 0, .int .i64 0, .int .u64 0, .int .i64 0, .int .i64 0, .int .i64 0, .int .u32 0, .slice none 0 0, .int .u64 0, .int .u64 0, .int .i64 0, .string ⟨#[]⟩, .int .i64 0, .slice none 0 0] 38) = w4 := ⟨_, rfl⟩
  rw [ew4] at hB hb
  have K4 := Lib.hid (K3.out.trans (hb.mono K3.out.size))
  have R4 := Lib.hid (R3.out.later hb)
  have hlb := K3.out.size
  rw [eb] at hB hlb
  have HLB := Lib.hid hlb
  clear hb K3 R3 hlb
  have B4 := Lib.hid hB
  clear hB
  go_wp2_with (first | rw [ew4] | rw [eb] | (refine wpl_store_blk rfl 38 (.tmp 9) (.tmp 29) rfl b 38 #[.int .i64 0, .int .i64 0, .int .i64 0, .int .u64 0, .int .u64 0, .int .u64 0, .int .u64 0, .int .u64 0, .bool false, .bool false, .slice none 0 0, .slice none 0 0, .slice none 0 0, .int .u64 0, .int .i64 0, .int .u64 0, .int .i64 0, .int .i64 0, .int .i64 0, .int .u32 0, .slice none 0 0, .int .u64 0, .int .u64 0, .int .i64 0, .string ⟨#[]⟩, .int .i64 0, .slice none 0 0] (pingCs 0 3) rfl rfl B4.out rfl sizeMsg rfl ?_; intro w5 hB5 hO5) | (refine wpl_load_blk rfl 38 (.tmp 9) rfl b 38 (pingCs 0 3) _ rfl hB5.out Tryz.underlying38 rfl sizeMsg ?_))
  clear ew4 eb
  have K5 := Lib.hid (K4.out.trans (hO5.out.below HLB.out))
  have R5 : Hid (RdB w5 A2 1 c2 [97]) := Lib.hid ⟨hO5.out.reads R4.out.1 (fun ad e hh => (u8_apart B4.out (by rfl) R4.out.1 (by decide) ad e hh)), R4.out.2⟩
  clear B4 K4 R4 hO5
  refine (check_ping0 w5).mono ?_
  rintro e w6 ⟨rfl, hb⟩
  have B6 := Lib.hid (hB5.out.below hb hB5.out.lt)
  have K6 := Lib.hid (K5.out.trans (hb.mono K5.out.size))
  have R6 := Lib.hid (R5.out.later hb)
  clear hb hB5 K5 R5
  go_wp2_with (refine wpl_load_blk rfl 38 (.tmp 9) rfl b 38 (pingCs 0 3) _ rfl B6.out Tryz.underlying38 rfl sizeMsg ?_)
  refine (put_ping w6).mono ?_
  rintro e w7 ⟨A7, n7, c7, rfl, r7, hb, h71, h72⟩
  have B7 := Lib.hid (B6.out.below hb B6.out.lt)
  have K7 := Lib.hid (K6.out.trans (hb.mono K6.out.size))
  have R7 := Lib.hid (R6.out.later hb)
  have hl7 : n7 = 27 := by have := r7.out.1; simpa [pingB] using this.symm
  subst hl7
  have IN7 : Hid (InB w7 A7 27 c7 pingB) := Lib.hid ⟨r7.out, by unfold Byt pingB; decide, rfl, h71, h72, by decide⟩
  clear hb r7 h71 h72 B6 K6 R6
  go_wp2_with fail
  refine (Get_any A7 27 c7 pingB w7 IN7 (Lib.hid (hg.out.later K7.out))).mono ?_
  rintro e w8 ⟨hb, hm⟩
  rw [ping_read] at hm
  simp only [if_pos] at hm
  obtain ⟨m, hmx, rfl, -, -⟩ := hm
  obtain ⟨cs, ecs⟩ : ∃ cs, mgCs m = cs := ⟨_, rfl⟩
  have h7 : cs[7]? = some (.int .u64 3) := by rw [← ecs]; unfold mgCs; rw [hmx]; rfl
  have hsz : cs.size = 27 := by rw [← ecs]; rfl
  have hone : cs.toList.all (·.oneCell') = true := by rw [← ecs]; rfl
  rw [ecs]
  have HC7 := Lib.hid h7
  have HSZ := Lib.hid hsz
  have HONE := Lib.hid hone
  have B8 := Lib.hid (B7.out.below hb B7.out.lt)
  have K8 := Lib.hid (K7.out.trans (hb.mono K7.out.size))
  have R8 := Lib.hid (R7.out.later hb)
  clear hb hmx ecs h7 hsz hone B7 K7 R7 IN7
  obtain ⟨d, ed⟩ : ∃ d, w8.heap.size = d := ⟨_, rfl⟩
  have hB : Blk (w8.alloc (.cells #[.int .i64 0, .int .i64 0, .int .i64 0, .int .u64 0, .int .u64 0, .int .u64 0, .int .u64 0, .int .u64 0, .bool false, .bool false, .slice none 0 0, .slice none 0 0, .slice none 0 0, .int .u64 0, .int .i64 0, .int .u64 0, .int .i64 0, .int .i64 0, .int .i64 0, .int .u32 0, .slice none 0 0, .int .u64 0, .int .u64 0, .int .i64 0, .string ⟨#[]⟩, .int .i64 0, .slice none 0 0] 38)) w8.heap.size 38 #[.int .i64 0, .int .i64 0, .int .i64 0, .int .u64 0, .int .u64 0, .int .u64 0, .int .u64 0, .int .u64 0, .bool false, .bool false, .slice none 0 0, .slice none 0 0, .slice none 0 0, .int .u64 0, .int .i64 0, .int .u64 0, .int .i64 0, .int .i64 0, .int .i64 0, .int .u32 0, .slice none 0 0, .int .u64 0, .int .u64 0, .int .i64 0, .string ⟨#[]⟩, .int .i64 0, .slice none 0 0] := Blk.new w8 _ _
  have hb : Below w8.heap.size w8 (w8.alloc (.cells #[.int .i64 0, .int .i64 0, .int .i64 0, .int .u64 0, .int .u64 0, .int .u64 0, .int .u64 0, .int .u64 0, .bool false, .bool false, .slice none 0 0, .slice none 0 0, .slice none 0 0, .int .u64 0, .int .i64 0, .int .u64 0, .int .i64 0, .int .i64 0, .int .i64 0, .int .u32 0, .slice none 0 0, .int .u64 0, .int .u64 0, .int .i64 0, .string ⟨#[]⟩, .int .i64 0, .slice none 0 0] 38)) := (Below.refl _ _).alloc (Nat.le_refl _) _
  obtain ⟨w9, ew9⟩ : ∃ w9, w8.alloc (.cells #[.int .i64 0, .int .i64 0, .int .i64 0, .int .u64 0, .int .u64 0, .int .u64 0, .int .u64 0, .int .u64 0, .bool false, .bool false, .slice none 0 0, .slice none 0 0, .slice none 0 0, .int .u64 0, .int .i64 0, .int .u64 0, .int .i64 0, .int .i64 0, .int .i64 0, .int .u32 0, .slice none 0 0, .int .u64 0, .int .u64 0, .int .i64 0, .string ⟨#[]⟩, .int .i64 0, .slice none 0 0] 38) = w9 := ⟨_, rfl⟩
  rw [ew9] at hB hb
  have B9 := Lib.hid (B8.out.below hb B8.out.lt)
  have K9 := Lib.hid (K8.out.trans (hb.mono K8.out.size))
  have R9 := Lib.hid (R8.out.later hb)
  have hlb := K8.out.size
  have hbd := B8.out.lt
  rw [ed] at hB hlb hbd
  have HLD := Lib.hid (And.intro hlb hbd)
  have D9 := Lib.hid hB
  have hRd := Lib.hid (u8_apart D9.out (by rfl) R9.out.1 (by decide))
  clear hb hB B8 K8 R8 hlb hbd
  go_wp2_with (first | rw [ew9] | rw [ed] | (refine wpl_store_blk rfl 38 (.tmp 11) (.tmp 36) rfl d 38 #[.int .i64 0, .int .i64 0, .int .i64 0, .int .u64 0, .int .u64 0, .int .u64 0, .int .u64 0, .int .u64 0, .bool false, .bool false, .slice none 0 0, .slice none 0 0, .slice none 0 0, .int .u64 0, .int .i64 0, .int .u64 0, .int .i64 0, .int .i64 0, .int .i64 0, .int .u32 0, .slice none 0 0, .int .u64 0, .int .u64 0, .int .i64 0, .string ⟨#[]⟩, .int .i64 0, .slice none 0 0] cs rfl rfl D9.out HSZ.out.symm (by rw [HSZ.out]; exact sizeMsg) HONE.out ?_; intro wx hBx hOx; have Bx := Lib.hid (hOx.out.blk B9.out (by have := HLD.out; omega)); have cx : wx.cell? ⟨b, 3, none⟩ = some (.int .u64 0) := Bx.out.cell 3; have fx := Bx.out.frozen 3))
  clear ew9 ed
  have RX := Lib.hid (show RdB wx A2 1 c2 [97] from ⟨hOx.out.reads R9.out.1 (fun ad e hh => hRd.out ad e hh), R9.out.2⟩)
  have hRb := Lib.hid (u8_apart Bx.out (by rfl) RX.out.1 (by decide))
  have hBy : Blk (wx.setCell ⟨b, 3, none⟩ (.int .u64 1)) b 38 (pingCs 1 3) := Bx.out.set_ 3 (.int .u64 1)
  have hOy := Only.set_ wx b 3 (.int .u64 1)
  obtain ⟨wy, ey⟩ : ∃ wy, wx.setCell ⟨b, 3, none⟩ (.int .u64 1) = wy := ⟨_, rfl⟩
  have hzy : wy.heap.size = wx.heap.size := by rw [← ey]; simp
  rw [ey] at hBy hOy ⊢
  have KY := Lib.hid ((K9.out.trans (hOx.out.below HLD.out.1)).trans (hOy.below HLB.out))
  have RY := Lib.hid (show RdB wy A2 1 c2 [97] from ⟨hOy.reads RX.out.1 (fun ad e hh => hRb.out ad e hh), RX.out.2⟩)
  have DY := Lib.hid (hOy.blk hBx.out (by have := HLD.out; omega))
  have BY := Lib.hid hBy
  clear ey hBy hOy cx fx Bx RX hBx hOx K9 R9 D9 B9 hRd hRb
  obtain ⟨wz, ez⟩ : ∃ wz, wy.alloc (.cells #[.int .u8 97] 5) = wz := ⟨_, rfl⟩
  have hbz : Below wy.heap.size wy (wy.alloc (.cells #[.int .u8 97] 5)) := (Below.refl _ _).alloc (Nat.le_refl _) _
  have hrz := Reads.lit wy 5 [.int .u8 97] 1 1 rfl
  have hsz : (wy.alloc (.cells #[.int .u8 97] 5)).heap.size = wy.heap.size + 1 := by simp
  rw [ez] at hbz hrz hsz ⊢
  have KZ := Lib.hid (KY.out.trans (hbz.mono KY.out.size))
  have RZ := Lib.hid (RY.out.later hbz)
  have DZ := Lib.hid (DY.out.below hbz DY.out.lt)
  have BZ := Lib.hid (BY.out.below hbz BY.out.lt)
  have LZ := Lib.hid (show Reads wz wz.heap.size 1 (some ⟨wx.heap.size, 0, none⟩) 1 (([97] : List Nat).map bv) from by rw [hsz, ← hzy]; exact hrz)
  clear hbz hrz hsz ez KY RY DY BY hzy
  refine (same_any A2 (some ⟨wx.heap.size, 0, none⟩) c2 1 1 1 [97] [97] wz (by intro x hx; simp at hx; omega) (by intro x hx; simp at hx; omega) RZ.out.1 LZ.out).mono ?_
  rintro e wq ⟨rfl, rfl⟩
  have c7 : wz.cell? ⟨d, 7, none⟩ = some (.int .u64 3) := by rw [DZ.out.cell]; exact HC7.out
  have c0 : decide (([97] : List Nat) = [97]) = true := by decide
  go_wp2_with (first
    | (go_at_call 11; refine (check_ping1 wz).mono ?_; rintro e wv ⟨rfl, hb⟩; have KV := Lib.hid (KZ.out.trans (hb.mono KZ.out.size)); clear hb)
    | (refine wpl_want2 (by rfl) (wp_load_blk2 38 (.tmp 9) rfl b 38 (pingCs 1 3) _ rfl BZ.out Tryz.underlying38 rfl sizeMsg ?_)))

  go_ret
  exact ⟨rfl, KV.out⟩
end Go.Proofs.YtlnneacgllhdhaaGreatDoor
end
