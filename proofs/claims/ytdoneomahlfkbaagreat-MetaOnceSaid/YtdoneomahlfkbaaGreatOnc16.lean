/- THE MACHINE: a map that is coming. (printed by gen_meh11.py). (joined out of MeH11 by shake.py) -/
import Derived.Test.YtdoneomahlfkbaaGreatOnc15
set_option linter.unusedVariables false
set_option linter.unusedSimpArgs false
set_option maxRecDepth 100000
set_option maxHeartbeats 8000000
namespace Go.Proofs.YtdoneomahlfkbaaGreat
section
open Go.RowKit OctMath StrMath PlMath
theorem arr14 {ms:Array Value} (h:ms.size=14):∃u0 u1 u2 u3 u4 u5 u6 u7 u8 u9 u10 u11 u12 u13,ms=#[u0,u1,u2,u3,u4,u5,u6,u7,u8,u9,u10,u11,u12,u13]:=by
 obtain⟨l⟩:=ms
 match l,h with
 | [u0,u1,u2,u3,u4,u5,u6,u7,u8,u9,u10,u11,u12,u13],_=>exact⟨_,_,_,_,_,_,_,_,_,_,_,_,_,_,rfl⟩
structure CmIn (G:List Nat) (c:CmdT) (CA:Option Addr) (cc:Nat) (w:World):Prop where
 inn:(⟨2,CA,cc,c.mem.length,mcells c.mem⟩:RowT).In w
 off:∀k ∈ G,(⟨2,CA,cc,c.mem.length,mcells c.mem⟩:RowT).Off k
 m64:M64 c.mem
def MM.setN (m:MM) (e:Nat) (ms:List (Int×Int)) (A:Option Addr) (c:Nat):MM:={ m with x:={ m.x with nep:=e,nem:=ms },NA:=A,nc:=c }
theorem MS.setN {G:List Nat} {g:Nat} {m:MM} {w w':World} (h:MS G g m w) {e:Nat} {ms:List (Int×Int)} {A:Option Addr} {c:Nat} (hb:w.grownBy w' (some g)) (hB:Blk w' g 72 ((m.cs.setIfInBounds 5 (.int .u64 (e:Int))).setIfInBounds 6 (.slice A ms.length c)))
 (hr:(⟨2,A,c,ms.length,mcells ms⟩:RowT).In w') (ho:∀k ∈ G,(⟨2,A,c,ms.length,mcells ms⟩:RowT).Off k):MS G g (m.setN e ms A c) w' :=
 h.turn hb hB (MM.All.mk' (.inr h.old.map) (.inl ⟨hr,ho⟩) (.inr h.old.cut) (.inr h.old.objs) (.inr h.old.ints) (.inr h.old.sess) (.inr h.old.wass) (.inr h.old.down) (fun o k => .inr (h.old.os o k)) (fun o k => .inr (h.old.is o k))) h.inn.os h.inn.is ⟨h.inn.wf.ok,h.inn.wf.ik,h.inn.wf.ol,h.inn.wf.il,h.inn.wf.sl,h.inn.wf.wl,h.inn.wf.cl,h.inn.wf.dl⟩
theorem coming_any (G:List Nat) (g:Nat) (m:MM) (c:CmdT) (CA:Option Addr) (cc:Nat) (w:World) (hM:Hid (MS G g m w)) (hcm:Hid (CmIn G c CA cc w)) :
 Calls Tryz.prog 24 #[.pointer (some ⟨g,0,none⟩),.agg (cmdCs c CA cc)] w (RetRes G g (comingM plF m.x c) w):=by
 obtain⟨cs,ecs⟩:∃cs,cmdCs c CA cc=cs:=⟨_,rfl⟩
 have V0:=Lh (show cs[0]?=some (.int .i64 c.kind) from by rw [← ecs];rfl)
 have V1:=Lh (show cs[1]?=some (.int .u64 (c.client:Int)) from by rw [← ecs];rfl)
 have V2:=Lh (show cs[2]?=some (.int .u64 (c.seq:Int)) from by rw [← ecs];rfl)
 have V3:=Lh (show cs[3]?=some (.string (strOf c.key)) from by rw [← ecs];rfl)
 have V4:=Lh (show cs[4]?=some (.int .i64 c.size) from by rw [← ecs];rfl)
 have V5:=Lh (show cs[5]?=some (.int .u32 (c.sum:Int)) from by rw [← ecs];rfl)
 have V6:=Lh (show cs[6]?=some (.int .u64 (c.version:Int)) from by rw [← ecs];rfl)
 have V7:=Lh (show cs[7]?=some (.int .u64 (c.epoch:Int)) from by rw [← ecs];rfl)
 have V8:=Lh (show cs[8]?=some (.int .i64 c.group) from by rw [← ecs];rfl)
 have V9:=Lh (show cs[9]?=some (.int .i64 c.node) from by rw [← ecs];rfl)
 have V10:=Lh (show cs[10]?=some (.bool c.up) from by rw [← ecs];rfl)
 have V11:=Lh (show cs[11]?=some (.int .u64 (c.id.ver:Int)) from by rw [← ecs];rfl)
 have V12:=Lh (show cs[12]?=some (.int .i64 c.id.idx) from by rw [← ecs];rfl)
 have V13:=Lh (show cs[13]?=some (.int .u64 (c.id.ep:Int)) from by rw [← ecs];rfl)
 have V14:=Lh (show cs[14]?=some (.int .u64 (c.mep:Int)) from by rw [← ecs];rfl)
 have V15:=Lh (show cs[15]?=some (.slice CA c.mem.length cc) from by rw [← ecs];rfl)
 have HCS:=Lh (show cs.size=16 from by rw [← ecs];rfl)
 have HCO:=Lh (show cs.toList.all (·.oneCell')=true from by rw [← ecs];rfl)
 rw [ecs]
 have ECS:=Lh ecs
 clear ecs
 have HGL:=Lh hM.out.blk.lt
 go_enter Tryz.func24,Tryz.ntmps24
 go_upto_region 1 with (fail)
 obtain⟨w1,ew1⟩:∃w1,(w.alloc (.cells cs 48)).alloc (.cells rZ 39)=w1:=⟨_,rfl⟩
 have hb0:Below w.heap.size w ((w.alloc (.cells cs 48)).alloc (.cells rZ 39)):=((Below.refl _ _).alloc (Nat.le_refl _) _).alloc (by simp) _
 have hB:=(Blk.new w 48 cs).alloc (.cells rZ 39)
 have hR:=Blk.new (w.alloc (.cells cs 48)) 39 rZ
 have hs1:(w.alloc (.cells cs 48)).heap.size=w.heap.size+1:=by simp
 rw [hs1] at hR
 rw [ew1] at hb0 hB hR
 have ew1':(w.alloc (.cells cs 48)).alloc (.cells #[.int .i64 0,.int .u64 0,.slice none 0 0,.int .u64 0] 39)=w1:=ew1
 rw [ew1']
 have HB0:=Lh hb0
 have HB:=Lh hB
 have HRB:=Lh hR
 have HM1:=Lh (hM.out.add hb0 (k:=w.heap.size+1) (by omega) hR.lt)
 have HGG:=Lh hM.out.mem
 clear hb0 hB hR hs1 ew1 ew1' hM
 obtain⟨b0,e0⟩:∃b0,w.heap.size=b0:=⟨_,rfl⟩
 have E0:=Lh e0
 rw [e0] at HB HRB HGL HM1 ⊢
 clear e0
 obtain⟨GG,eGG⟩:∃GG,(b0+1) :: G=GG:=⟨_,rfl⟩
 have EGG:=Lh eGG
 rw [eGG] at HM1
 clear eGG
 have HCM:Hid (CmIn GG c CA cc w1):=Lh ⟨hcm.out.inn.later HB0.out,fun k hk=>by
  rw [← EGG.out] at hk
  rcases List.mem_cons.1 hk with rfl | hk
  · exact hcm.out.inn.off (by have:=E0.out;omega)
  · exact hcm.out.off k hk,hcm.out.m64⟩
 have c14:w1.cell? ⟨b0,14,none⟩=some (.int .u64 (c.mep:Int)):=(HB.out.cell 14).trans V14.out
 have c15:w1.cell? ⟨b0,15,none⟩=some (.slice CA c.mem.length cc):=(HB.out.cell 15).trans V15.out
 have g3:w1.cell? ⟨g,3,none⟩=some (.int .u64 (m.x.mep:Int)):=HM1.out.blk.cell 3
 have HGB:=Lh HM1.out.blk
 have HMV:=Lh (fun W=>moving_any m W)
 have HMP:=Lh (fun W (h:Below w1.heap.size w1 W)=>mapped_any m c.mep CA c.mem.length cc c.mem W (Lh (HCM.out.inn.later h)) HCM.out.m64)
 unfold mapV at HMP
 obtain⟨ms,ems⟩:∃ms,m.cs=ms:=⟨_,rfl⟩
 have EMZ:=Lh (show ms.size=14 from by rw [← ems];rfl)
 rw [ems] at HGB HMV HMP
 clear ems
 obtain⟨u0,u1,u2,u3,u4,u5,u6,u7,u8,u9,u10,u11,u12,u13,rfl⟩:=arr14 EMZ.out
 clear EMZ
 have HU:=Lh (fun W (h:Below w1.heap.size w1 W)=>show W.cell? ⟨g,0,none⟩=some u0∧W.cell? ⟨g,1,none⟩=some u1∧W.cell? ⟨g,2,none⟩=some u2∧W.cell? ⟨g,3,none⟩=some u3∧W.cell? ⟨g,4,none⟩=some u4∧W.cell? ⟨g,5,none⟩=some u5∧W.cell? ⟨g,6,none⟩=some u6∧W.cell? ⟨g,7,none⟩=some u7∧W.cell? ⟨g,8,none⟩=some u8∧W.cell? ⟨g,9,none⟩=some u9∧W.cell? ⟨g,10,none⟩=some u10∧W.cell? ⟨g,11,none⟩=some u11∧W.cell? ⟨g,12,none⟩=some u12∧W.cell? ⟨g,13,none⟩=some u13 from ⟨(HGB.out.below h HGB.out.lt).cell 0,(HGB.out.below h HGB.out.lt).cell 1,(HGB.out.below h HGB.out.lt).cell 2,(HGB.out.below h HGB.out.lt).cell 3,(HGB.out.below h HGB.out.lt).cell 4,(HGB.out.below h HGB.out.lt).cell 5,(HGB.out.below h HGB.out.lt).cell 6,(HGB.out.below h HGB.out.lt).cell 7,(HGB.out.below h HGB.out.lt).cell 8,(HGB.out.below h HGB.out.lt).cell 9,(HGB.out.below h HGB.out.lt).cell 10,(HGB.out.below h HGB.out.lt).cell 11,(HGB.out.below h HGB.out.lt).cell 12,(HGB.out.below h HGB.out.lt).cell 13⟩)
 obtain⟨ee,hee⟩:∃ee,decide (c.mep=(m.x.mep+1) % 18446744073709551616)=ee:=⟨_,rfl⟩
 have q1:((c.mep:Int) == IntKind.u64.wrap ((m.x.mep:Int)+1))=ee:=by
  rw [← hee,IntKind.wrap_u64,Bool.eq_iff_iff,beq_iff_eq,decide_eq_true_eq]
  omega
 have HEE:=Lh hee
 clear hee
 obtain⟨mv,hmv⟩:∃mv,m.x.moving=mv:=⟨_,rfl⟩
 have EMV:=Lh hmv
 rw [hmv] at HMV
 obtain⟨ok,hok⟩:∃ok,plF.okM m.x.n (c.mep,c.mem)=ok:=⟨_,rfl⟩
 have EOK:=Lh hok
 rw [hok] at HMP
 clear hmv hok
 refine wp_region_class (fun w'=>Hid (Below w1.heap.size w1 w'∧w'.cell? ⟨b0,14,none⟩=some (.int .u64 (c.mep:Int))∧w'.cell? ⟨b0,15,none⟩=some (.slice CA c.mem.length cc)∧w'.cell? ⟨g,3,none⟩=some (.int .u64 (m.x.mep:Int)))) (by kernel_rfl) (by kernel_rfl) (Lh ⟨(Below.refl _ _).drew,c14,c15,g3⟩) ?_
 rcases (show mv=true∨(mv=false∧ee=false)∨(mv=false∧ee=true∧ok=false)∨(mv=false∧ee=true∧ok=true) from by cases mv <;> cases ee <;> cases ok <;> simp) with rfl | ⟨rfl,rfl⟩ | ⟨rfl,rfl,rfl⟩ | ⟨rfl,rfl,rfl⟩
 · have HNO:=Lh (show (!(m.x.moving) && ((decide (c.mep=(m.x.mep+1) % 18446744073709551616)) && plF.okM m.x.n (c.mep,c.mem)))=false from by rw [EMV.out];rfl)
   repeat (first
    | go_big_quiet_skip
    | (go_big_quiet_want;go_big_quiet_op;first
        | go_big_quiet_on
        | (refine⟨_,fun _ _=>rfl,?_⟩;go_big_quiet_on)
        | (refine⟨.agg #[.int .u64 (c.mep:Int),.slice CA c.mem.length cc],fun w' hw'=>?_,?_⟩
           · simp [hw'.out.2.1,hw'.out.2.2.1]
             done
           go_big_quiet_on)
        | (refine⟨.int .u64 (c.mep:Int),fun w' hw'=>?_,?_⟩
           · simp [hw'.out.2.1]
             done
           go_big_quiet_on)
        | (refine⟨.int .u64 (m.x.mep:Int),fun w' hw'=>?_,?_⟩
           · simp [hw'.out.2.2.2]
             done
           go_big_quiet_on)
        | (refine⟨.agg #[u0,u1,u2,u3,u4,u5,u6,u7,u8,u9,u10,u11,u12,u13],fun w' hw'=>?_,?_⟩
           · obtain⟨k0,k1,k2,k3,k4,k5,k6,k7,k8,k9,k10,k11,k12,k13⟩:=HU.out w' hw'.out.1
             simp [k0,k1,k2,k3,k4,k5,k6,k7,k8,k9,k10,k11,k12,k13]
             done
           go_big_quiet_on)
        | (refine⟨.bool true,fun w' hw'=>?_,?_⟩
           · go_at_call 61
             exact (HMV.out w').mono (fun e w'' h=>⟨h.1,Lh ⟨hw'.out.1.trans (h.2.mono hw'.out.1.size),cell_later h.2 hw'.out.2.1,cell_later h.2 hw'.out.2.2.1,cell_later h.2 hw'.out.2.2.2⟩⟩)
           go_big_quiet_on)
        | (refine⟨.bool ok,fun w' hw'=>?_,?_⟩
           · go_at_call 62
             exact (HMP.out w' hw'.out.1).mono (fun e w'' h=>⟨h.1,Lh ⟨hw'.out.1.trans (h.2.mono hw'.out.1.size),cell_later h.2 hw'.out.2.1,cell_later h.2 hw'.out.2.2.1,cell_later h.2 hw'.out.2.2.2⟩⟩)
           go_big_quiet_on)))
   refine wpQuiet_nil ?_
   intro w2 hw2
   have HB2:=Lh hw2.out.1
   clear hw2
   have HM2:=Lh (HM1.out.later HB2.out)
   have HR2:=Lh (HRB.out.below HB2.out HRB.out.lt)
   clear c14 c15 g3
   go_wp2_with (first
    | (go_at_call 19;refine (when_any _ _).mono ?_;rintro e w10 ⟨rfl,hb10⟩;have HB10:=Lh hb10;clear hb10)
    | (refine wpl_store_blk rfl 39 (.tmp 4) _ rfl (b0+1) 39 rZ _ rfl rfl (HR2.out.below HB10.out HR2.out.lt) rfl Tryz.szR rfl ?_;intro w11 hB11 hO11))
   have HMF:=HM2.out.later HB10.out
   rw [← EGG.out] at HMF
   have HTF:=TurnM.mk (gb_fresh (gb_trans (gb_trans (gb_below HB0.out (some g)) (gb_below HB2.out _)) (gb_below HB10.out _)) hO11.out (by rw [E0.out];omega)) (HMF.sub hO11.out (by have:=HGL.out;omega) HGG.out) rfl
   refine bodyPost_ret (res_c Tryz.results24 rfl (load_blk hB11.out Tryz.underlying39 rfl Tryz.szR)) rfl ?_
   refine ret_eq ?_ (RetRes.code rfl rfl HTF)
   show (m.x,whenC false)=comingM plF m.x c
   unfold comingM
   rw [if_neg (fun h=>by have h':=HNO.out;rw [h.1,decide_eq_true h.2.1,h.2.2] at h';exact absurd h' (by decide))]
 · have HNO:=Lh (show (!(m.x.moving) && ((decide (c.mep=(m.x.mep+1) % 18446744073709551616)) && plF.okM m.x.n (c.mep,c.mem)))=false from by rw [HEE.out,EMV.out];rfl)
   repeat (first
    | go_big_quiet_skip
    | (go_big_quiet_want;go_big_quiet_op;first
        | go_big_quiet_on
        | (refine⟨_,fun _ _=>rfl,?_⟩;go_big_quiet_on)
        | (refine⟨.agg #[.int .u64 (c.mep:Int),.slice CA c.mem.length cc],fun w' hw'=>?_,?_⟩
           · simp [hw'.out.2.1,hw'.out.2.2.1]
             done
           go_big_quiet_on)
        | (refine⟨.int .u64 (c.mep:Int),fun w' hw'=>?_,?_⟩
           · simp [hw'.out.2.1]
             done
           go_big_quiet_on)
        | (refine⟨.int .u64 (m.x.mep:Int),fun w' hw'=>?_,?_⟩
           · simp [hw'.out.2.2.2]
             done
           go_big_quiet_on)
        | (refine⟨.agg #[u0,u1,u2,u3,u4,u5,u6,u7,u8,u9,u10,u11,u12,u13],fun w' hw'=>?_,?_⟩
           · obtain⟨k0,k1,k2,k3,k4,k5,k6,k7,k8,k9,k10,k11,k12,k13⟩:=HU.out w' hw'.out.1
             simp [k0,k1,k2,k3,k4,k5,k6,k7,k8,k9,k10,k11,k12,k13]
             done
           go_big_quiet_on)
        | (refine⟨.bool false,fun w' hw'=>?_,?_⟩
           · go_at_call 61
             exact (HMV.out w').mono (fun e w'' h=>⟨h.1,Lh ⟨hw'.out.1.trans (h.2.mono hw'.out.1.size),cell_later h.2 hw'.out.2.1,cell_later h.2 hw'.out.2.2.1,cell_later h.2 hw'.out.2.2.2⟩⟩)
           go_big_quiet_on)
        | (refine⟨.bool ok,fun w' hw'=>?_,?_⟩
           · go_at_call 62
             exact (HMP.out w' hw'.out.1).mono (fun e w'' h=>⟨h.1,Lh ⟨hw'.out.1.trans (h.2.mono hw'.out.1.size),cell_later h.2 hw'.out.2.1,cell_later h.2 hw'.out.2.2.1,cell_later h.2 hw'.out.2.2.2⟩⟩)
           go_big_quiet_on)))
   refine wpQuiet_nil ?_
   intro w2 hw2
   have HB2:=Lh hw2.out.1
   clear hw2
   have HM2:=Lh (HM1.out.later HB2.out)
   have HR2:=Lh (HRB.out.below HB2.out HRB.out.lt)
   clear c14 c15 g3
   go_wp2_with (first
    | (go_at_call 19;refine (when_any _ _).mono ?_;rintro e w10 ⟨rfl,hb10⟩;have HB10:=Lh hb10;clear hb10)
    | (refine wpl_store_blk rfl 39 (.tmp 4) _ rfl (b0+1) 39 rZ _ rfl rfl (HR2.out.below HB10.out HR2.out.lt) rfl Tryz.szR rfl ?_;intro w11 hB11 hO11))
   have HMF:=HM2.out.later HB10.out
   rw [← EGG.out] at HMF
   have HTF:=TurnM.mk (gb_fresh (gb_trans (gb_trans (gb_below HB0.out (some g)) (gb_below HB2.out _)) (gb_below HB10.out _)) hO11.out (by rw [E0.out];omega)) (HMF.sub hO11.out (by have:=HGL.out;omega) HGG.out) rfl
   refine bodyPost_ret (res_c Tryz.results24 rfl (load_blk hB11.out Tryz.underlying39 rfl Tryz.szR)) rfl ?_
   refine ret_eq ?_ (RetRes.code rfl rfl HTF)
   show (m.x,whenC false)=comingM plF m.x c
   unfold comingM
   rw [if_neg (fun h=>by have h':=HNO.out;rw [h.1,decide_eq_true h.2.1,h.2.2] at h';exact absurd h' (by decide))]
 · have HNO:=Lh (show (!(m.x.moving) && ((decide (c.mep=(m.x.mep+1) % 18446744073709551616)) && plF.okM m.x.n (c.mep,c.mem)))=false from by rw [HEE.out,EMV.out,EOK.out];rfl)
   repeat (first
    | go_big_quiet_skip
    | (go_big_quiet_want;go_big_quiet_op;first
        | go_big_quiet_on
        | (refine⟨_,fun _ _=>rfl,?_⟩;go_big_quiet_on)
        | (refine⟨.agg #[.int .u64 (c.mep:Int),.slice CA c.mem.length cc],fun w' hw'=>?_,?_⟩
           · simp [hw'.out.2.1,hw'.out.2.2.1]
             done
           go_big_quiet_on)
        | (refine⟨.int .u64 (c.mep:Int),fun w' hw'=>?_,?_⟩
           · simp [hw'.out.2.1]
             done
           go_big_quiet_on)
        | (refine⟨.int .u64 (m.x.mep:Int),fun w' hw'=>?_,?_⟩
           · simp [hw'.out.2.2.2]
             done
           go_big_quiet_on)
        | (refine⟨.agg #[u0,u1,u2,u3,u4,u5,u6,u7,u8,u9,u10,u11,u12,u13],fun w' hw'=>?_,?_⟩
           · obtain⟨k0,k1,k2,k3,k4,k5,k6,k7,k8,k9,k10,k11,k12,k13⟩:=HU.out w' hw'.out.1
             simp [k0,k1,k2,k3,k4,k5,k6,k7,k8,k9,k10,k11,k12,k13]
             done
           go_big_quiet_on)
        | (refine⟨.bool false,fun w' hw'=>?_,?_⟩
           · go_at_call 61
             exact (HMV.out w').mono (fun e w'' h=>⟨h.1,Lh ⟨hw'.out.1.trans (h.2.mono hw'.out.1.size),cell_later h.2 hw'.out.2.1,cell_later h.2 hw'.out.2.2.1,cell_later h.2 hw'.out.2.2.2⟩⟩)
           go_big_quiet_on)
        | (refine⟨.bool false,fun w' hw'=>?_,?_⟩
           · go_at_call 62
             exact (HMP.out w' hw'.out.1).mono (fun e w'' h=>⟨h.1,Lh ⟨hw'.out.1.trans (h.2.mono hw'.out.1.size),cell_later h.2 hw'.out.2.1,cell_later h.2 hw'.out.2.2.1,cell_later h.2 hw'.out.2.2.2⟩⟩)
           go_big_quiet_on)))
   refine wpQuiet_nil ?_
   intro w2 hw2
   have HB2:=Lh hw2.out.1
   clear hw2
   have HM2:=Lh (HM1.out.later HB2.out)
   have HR2:=Lh (HRB.out.below HB2.out HRB.out.lt)
   clear c14 c15 g3
   go_wp2_with (first
    | (go_at_call 19;refine (when_any _ _).mono ?_;rintro e w10 ⟨rfl,hb10⟩;have HB10:=Lh hb10;clear hb10)
    | (refine wpl_store_blk rfl 39 (.tmp 4) _ rfl (b0+1) 39 rZ _ rfl rfl (HR2.out.below HB10.out HR2.out.lt) rfl Tryz.szR rfl ?_;intro w11 hB11 hO11))
   have HMF:=HM2.out.later HB10.out
   rw [← EGG.out] at HMF
   have HTF:=TurnM.mk (gb_fresh (gb_trans (gb_trans (gb_below HB0.out (some g)) (gb_below HB2.out _)) (gb_below HB10.out _)) hO11.out (by rw [E0.out];omega)) (HMF.sub hO11.out (by have:=HGL.out;omega) HGG.out) rfl
   refine bodyPost_ret (res_c Tryz.results24 rfl (load_blk hB11.out Tryz.underlying39 rfl Tryz.szR)) rfl ?_
   refine ret_eq ?_ (RetRes.code rfl rfl HTF)
   show (m.x,whenC false)=comingM plF m.x c
   unfold comingM
   rw [if_neg (fun h=>by have h':=HNO.out;rw [h.1,decide_eq_true h.2.1,h.2.2] at h';exact absurd h' (by decide))]
 · have HYES:=Lh (show m.x.moving=false∧c.mep=(m.x.mep+1) % 18446744073709551616∧plF.okM m.x.n (c.mep,c.mem)=true from ⟨EMV.out,of_decide_eq_true HEE.out,EOK.out⟩)
   repeat (first
    | go_big_quiet_skip
    | (go_big_quiet_want;go_big_quiet_op;first
        | go_big_quiet_on
        | (refine⟨_,fun _ _=>rfl,?_⟩;go_big_quiet_on)
        | (refine⟨.agg #[.int .u64 (c.mep:Int),.slice CA c.mem.length cc],fun w' hw'=>?_,?_⟩
           · simp [hw'.out.2.1,hw'.out.2.2.1]
             done
           go_big_quiet_on)
        | (refine⟨.int .u64 (c.mep:Int),fun w' hw'=>?_,?_⟩
           · simp [hw'.out.2.1]
             done
           go_big_quiet_on)
        | (refine⟨.int .u64 (m.x.mep:Int),fun w' hw'=>?_,?_⟩
           · simp [hw'.out.2.2.2]
             done
           go_big_quiet_on)
        | (refine⟨.agg #[u0,u1,u2,u3,u4,u5,u6,u7,u8,u9,u10,u11,u12,u13],fun w' hw'=>?_,?_⟩
           · obtain⟨k0,k1,k2,k3,k4,k5,k6,k7,k8,k9,k10,k11,k12,k13⟩:=HU.out w' hw'.out.1
             simp [k0,k1,k2,k3,k4,k5,k6,k7,k8,k9,k10,k11,k12,k13]
             done
           go_big_quiet_on)
        | (refine⟨.bool false,fun w' hw'=>?_,?_⟩
           · go_at_call 61
             exact (HMV.out w').mono (fun e w'' h=>⟨h.1,Lh ⟨hw'.out.1.trans (h.2.mono hw'.out.1.size),cell_later h.2 hw'.out.2.1,cell_later h.2 hw'.out.2.2.1,cell_later h.2 hw'.out.2.2.2⟩⟩)
           go_big_quiet_on)
        | (refine⟨.bool true,fun w' hw'=>?_,?_⟩
           · go_at_call 62
             exact (HMP.out w' hw'.out.1).mono (fun e w'' h=>⟨h.1,Lh ⟨hw'.out.1.trans (h.2.mono hw'.out.1.size),cell_later h.2 hw'.out.2.1,cell_later h.2 hw'.out.2.2.1,cell_later h.2 hw'.out.2.2.2⟩⟩)
           go_big_quiet_on)))
   refine wpQuiet_nil ?_
   intro w2 hw2
   have HB2:=Lh hw2.out.1
   clear hw2
   have HM2:=Lh (HM1.out.later HB2.out)
   have HR2:=Lh (HRB.out.below HB2.out HRB.out.lt)
   have c14:=cell_later HB2.out c14
   have c15:=cell_later HB2.out c15
   have z0:w2.cell? ⟨g,5,none⟩=some (.int .u64 (m.x.nep:Int)):=HM2.out.blk.cell 5
   have z1:w2.cell? ⟨g,6,none⟩=some (.slice m.NA m.x.nem.length m.nc):=HM2.out.blk.cell 6
   have z2:w2.frozen? ⟨g,5,none⟩=false:=HM2.out.blk.frozen 5
   have z3:w2.frozen? ⟨g,6,none⟩=false:=HM2.out.blk.frozen 6
   go_upto_region 4 with (fail)
   have GS:=(HM2.out.blk.set_ 5 (.int .u64 (c.mep:Int))).set_ 6 (.slice CA c.mem.length cc)
   have OS:=(Only.set_ w2 g 5 (.int .u64 (c.mep:Int))).trans (Only.set_ _ g 6 (.slice CA c.mem.length cc))
   obtain⟨w3,ew3⟩:∃w3,(w2.setCell ⟨g,5,none⟩ (.int .u64 (c.mep:Int))).setCell ⟨g,6,none⟩ (.slice CA c.mem.length cc)=w3:=⟨_,rfl⟩
   rw [ew3] at GS OS ⊢
   have HM3:=Lh (HM2.out.setN (gb_only OS) GS (((HCM.out.inn.later HB2.out).grown (HCM.out.off g HM1.out.mem) (gb_only OS))) HCM.out.off)
   have HR3:=Lh (OS.blk HR2.out (by have:=HGL.out;omega))
   have HO3:=Lh OS
   clear c14 c15 g3 z0 z1 z2 z3 ew3 GS OS
   go_wp2_with (first
    | (go_at_call 19;refine (when_any _ _).mono ?_;rintro e w10 ⟨rfl,hb10⟩;have HB10:=Lh hb10;clear hb10)
    | (refine wpl_store_blk rfl 39 (.tmp 4) _ rfl (b0+1) 39 rZ _ rfl rfl (HR3.out.below HB10.out HR3.out.lt) rfl Tryz.szR rfl ?_;intro w11 hB11 hO11))
   have HMF:=HM3.out.later HB10.out
   rw [← EGG.out] at HMF
   have HTF:=TurnM.mk (gb_fresh (gb_trans (gb_trans (gb_trans (gb_below HB0.out (some g)) (gb_below HB2.out _)) (gb_only HO3.out)) (gb_below HB10.out _)) hO11.out (by rw [E0.out];omega)) (HMF.sub hO11.out (by have:=HGL.out;omega) HGG.out) rfl
   refine bodyPost_ret (res_c Tryz.results24 rfl (load_blk hB11.out Tryz.underlying39 rfl Tryz.szR)) rfl ?_
   refine ret_eq ?_ (RetRes.code rfl rfl HTF)
   show ((m.setN c.mep c.mem CA cc).x,whenC true)=comingM plF m.x c
   unfold comingM
   rw [if_pos HYES.out]
   rfl
end
end Go.Proofs.YtdoneomahlfkbaaGreat
