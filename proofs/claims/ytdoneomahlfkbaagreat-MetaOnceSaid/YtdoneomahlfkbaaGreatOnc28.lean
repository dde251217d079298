/- THE REFERENCE'S P, READING OR WRITING: rows of numbers; THE PROGRAM'S READER: structs; THE REFERENCE'S P, READING OR WRITING: names, heads, configurat -/
import Derived.Test.YtdoneomahlfkbaaGreatOnc27
import Derived.Test.YtdoneomahlfkbaaGreatOnc01
set_option linter.unusedVariables false
set_option linter.unusedSimpArgs false
set_option maxRecDepth 100000
set_option maxHeartbeats 8000000
namespace Go.Proofs.YtdoneomahlfkbaaGreat
section
open Go.RowKit OctMath
variable {σ:Type}
structure Gr (M:Md σ) (w0 w1:World) (t:TypeId) (size:Nat) (v:Value) (k:Nat) (xs:List Value) (s:σ) (wr:World):Prop where
 wk:Wk M w0 s wr
 own:wr.ownsRow w1.heap.size t size v k xs
 free:∀b,v.ownBlock=some b→Free M b wr
 lo:w0.heap.size≤w1.heap.size
 hi:w1.heap.size≤wr.heap.size
theorem Gr.start {M:Md σ} {w0 w1:World} {s:σ} (t:TypeId) (size:Nat) (h:Wk M w0 s w1):Gr M w0 w1 t size (.slice none 0 0) 0 [] s w1:=⟨h,⟨by simp,.inl ⟨rfl,rfl⟩⟩,fun b e=>by simp [Value.ownBlock] at e,h.stp.size,Nat.le_refl _⟩
theorem Stp.own {M:Md σ} {w w':World} {base size n:Nat} {t:TypeId} {v:Value} {xs:List Value} (h:Stp M w w') (ho:w.ownsRow base t size v n xs) (hH:∀k,v.ownBlock=some k→Free M k w):w'.ownsRow base t size v n xs:=by
 obtain⟨hl,h0⟩:=ho
 refine⟨hl,?_⟩
 rcases h0 with h0 | ⟨g,cap,cur,rfl,h1,h2,h3⟩
 · exact .inl h0
 · have hf:=hH g rfl
   exact .inr ⟨g,cap,cur,rfl,h1,(h.block g hf.lt hf.wr).trans h2,h3⟩
theorem Gr.call {M:Md σ} {w0 w1 wr w':World} {t:TypeId} {size:Nat} {v:Value} {k:Nat} {xs:List Value} {s s':σ} (h:Gr M w0 w1 t size v k xs s wr) (h1:M.St s' w') (h2:Stp M wr w'):Gr M w0 w1 t size v k xs s' w' :=
 ⟨h.wk.call h1 h2,h2.own h.own h.free,fun b e=>(h.free b e).step h2,h.lo,Nat.le_trans h.hi h2.size⟩
theorem Gr.later {M:Md σ} (hM:MdOk M) {w0 w1 wr w':World} {t:TypeId} {size:Nat} {v:Value} {k:Nat} {xs:List Value} {s:σ} (h:Gr M w0 w1 t size v k xs s wr) (hb:Below wr.heap.size wr w'):Gr M w0 w1 t size v k xs s w' :=
 ⟨h.wk.later hM hb,h.own.kept (below_grown hb) (by cases hv:v.ownBlock <;> simp),fun b e=>(h.free b e).grown hM h.wk.st (below_grown hb) (fun k e=>by cases e),h.lo,Nat.le_trans h.hi hb.size⟩
theorem Gr.alloc {M:Md σ} (hM:MdOk M) {w0 w1 wr:World} {t:TypeId} {size:Nat} {v:Value} {k:Nat} {xs:List Value} {s:σ} (h:Gr M w0 w1 t size v k xs s wr) (o:Obj):Gr M w0 w1 t size v k xs s (wr.alloc o):=h.later hM ((Below.refl _ _).alloc (Nat.le_refl _) o)
theorem Gr.base {M:Md σ} {w0 w1 wr:World} {t:TypeId} {size:Nat} {v:Value} {k:Nat} {xs:List Value} {s:σ} (h:Gr M w0 w1 t size v k xs s wr) {b:Nat} (e:v.ownBlock=some b):w1.heap.size≤b:=(h.own.lt b e).1
theorem Gr.only {M:Md σ} (hM:MdOk M) {w0 w1 wr w':World} {t t':TypeId} {size:Nat} {v:Value} {k b:Nat} {xs:List Value} {cs:Array Value} {s:σ} (h:Gr M w0 w1 t size v k xs s wr) (hb:Bk M w0 b t' cs wr) (ho:Only b wr w') (hne:v.ownBlock≠some b):Gr M w0 w1 t size v k xs s w' :=
 ⟨h.wk.only hM hb ho,ho.own h.own hne,fun j e=>(h.free j e).grown hM h.wk.st ho.grown (fun i e'=>by injection e' with e';rw [← e'];exact hb.free),h.lo,by rw [ho.size];exact h.hi⟩
theorem Gr.more {M:Md σ} (hM:MdOk M) {w0 w1 wr w':World} {t:TypeId} {size:Nat} {v v':Value} {k k':Nat} {xs xs':List Value} {s:σ} (h:Gr M w0 w1 t size v k xs s wr) (hl:w1.heap.size≤wr.heap.size) (ho:w'.ownsRow w1.heap.size t size v' k' xs') (hg:wr.grownBy w' v.ownBlock) (hv:v'.ownBlock=v.ownBlock∨v'.ownBlock=some wr.heap.size):Gr M w0 w1 t size v' k' xs' s w':=by
 have hr:∀b,v.ownBlock=some b→Free M b wr∧w0.heap.size≤b:=fun b e=>⟨h.free b e,Nat.le_trans h.lo (h.base e)⟩
 obtain⟨a,dq⟩:=hM.grown h.wk.st hg (fun b e=>(hr b e).1)
 refine⟨h.wk.grown hM hg hr,ho,fun b e=>?_,h.lo,Nat.le_trans h.hi hg.size⟩
 rcases hv with hv | hv
 · exact (h.free b (hv ▸ e)).grown hM h.wk.st hg (fun b e=>(hr b e).1)
 · rw [hv] at e
   injection e with e
   subst e
   exact⟨(ho.lt _ hv).2,fun e=>Nat.lt_irrefl _ (hM.fresh h.wk.st _ (.inl ((dq.1 _).1 e))),fun e=>Nat.lt_irrefl _ (hM.fresh h.wk.st _ (.inr ((dq.2 _).1 e)))⟩
theorem Ls.more {M:Md σ} (hM:MdOk M) {w0 w1 wr w':World} {t:TypeId} {size sz n:Nat} {v:Value} {k:Nat} {xs ys:List Value} {s:σ} {A:Option Addr} (h:Gr M w0 w1 t size v k xs s wr) (hg:wr.grownBy w' v.ownBlock) (hL:Ls M sz A n ys wr) (ha:0<n→∀ad,A=some ad→ad.block<w1.heap.size):Ls M sz A n ys w' :=
 hL.grown hM h.wk.st hg h.free (fun hn ad e e'=>by have:=ha hn ad e;have:=h.base e';omega)
theorem Bk.more {M:Md σ} (hM:MdOk M) {w0 w1 wr w':World} {t t':TypeId} {size b:Nat} {v:Value} {k:Nat} {xs:List Value} {cs:Array Value} {s:σ} (h:Gr M w0 w1 t size v k xs s wr) (hg:wr.grownBy w' v.ownBlock) (hB:Bk M w0 b t' cs wr) (ha:b<w1.heap.size):Bk M w0 b t' cs w' :=
 hB.grown hM h.wk.st hg h.free (fun e=>by have:=h.base e;omega)
theorem wpl_gr {M:Md σ} (hM:MdOk M) {ops:Array Oper} {rest:List Oper} {o:Oper} {a:Act} {Q:Exit→Act→World→Prop} {w0 w1 wr:World} {te:TypeId} {size:Nat} {v:Value} {k:Nat} {xs:List Value} {st:σ} (hg:o.guard=none) (s x:Operand) (ts:TypeId) (z:Value) (bytes:Nat)
 (hts:Tryz.prog.underlying ts=some (.slice te)) (hinfo:(Tryz.prog.info? te).map (fun i=>(i.zero,i.size,i.bytes))=some (some z,size,bytes)) (hz:z.cells.size=size) (h0:0<size) (hb0:0<bytes)
 (ho:o.op = .call { callee := .builtin .append,args:=#[s,x],argTypes:=#[ts,ts] }) (hst:Gr M w0 w1 te size v k xs st wr) (hl:(k+1)*bytes≤140737488355328) (us:List Value) (hus:us.length=1*size) (hu:∀u ∈ us,u.oneCell'=true) (hs:a.eval s=v) (hx:a.eval x = .slice (some ⟨wr.heap.size,0,none⟩) 1 1)
 (h:∀v' w',Hid (Gr M w0 w1 te size v' (k+1) (xs ++ us) st w'∧(wr.alloc (.cells us.toArray te)).grownBy w' v.ownBlock)→wpList Tryz.prog ops Q rest (a.put o.dst v') w'):wpList Tryz.prog ops Q (o :: rest) a (wr.alloc (.cells us.toArray te)):=by
 obtain⟨ii,q1,q2,q3,q4⟩:=info_parts hinfo
 have hst':=hst.alloc hM (.cells us.toArray te)
 have e:(wr.alloc (.cells us.toArray te)).heap.size=wr.heap.size+1:=by simp
 have hk:(k+1)≤maxLen:=by
  unfold maxLen
  have:(k+1)*1≤(k+1)*bytes:=Nat.mul_le_mul_left _ hb0
  omega
 exact wpList_append_any _ hg s x ts ho w1.heap.size te ii z size bytes hts q1 q2 q3 q4 hz h0 v k xs hs hst'.own (wr.heap.size+1) (some ⟨wr.heap.size,0,none⟩) 1 1 us hx (Reads.lit wr te us size 1 hus) hu hk hl (by have:=hst.hi;omega) (fun v' w' h1 h2 h3=>h v' w' (Lh ⟨hst'.more hM hst'.hi h1 h2 h3,h2⟩))
theorem itF_bad {α β:Type} {M:Md σ} {one:σ→α→σ×β} {arg:Nat→α} {s:σ} {k m:Nat} (h:M.bad (itF M one arg k s).1=true) (hm:k≤m):itF M one arg m s=itF M one arg k s:=by
 induction m with
 | zero=>obtain rfl:k=0:=by omega
         rfl
 | succ m ih =>
   by_cases e:k=m+1
   · rw [e]
   · have:=ih (by omega)
     show (if M.bad (itF M one arg m s).1 then _ else _)=_
     rw [this,if_pos h]
theorem itF_more {α β:Type} {M:Md σ} {one:σ→α→σ×β} {arg:Nat→α} {s s':σ} {k:Nat} {ys:List β} (h:itF M one arg k s=(s',ys)) (hb:M.bad s'=false):itF M one arg (k+1) s=((one s' (arg k)).1,ys ++ [(one s' (arg k)).2]):=by
 show (if M.bad (itF M one arg k s).1 then _ else _)=_
 rw [h,if_neg (by simp [hb])]
theorem itF_fit {α β:Type} {M:Md σ} (hM:MdOk M) {one:σ→α→σ×β} {arg:Nat→α} {s:σ} {c:Nat} (h1:∀s i a,M.fit s (a+c)→M.fit (one s (arg i)).1 a):∀ (k a:Nat),M.fit s (a+c*k)→M.fit (itF M one arg k s).1 a
 | 0,a,h=>h
 | k+1,a,h=>by
   have h2:=itF_fit hM h1 k (a+c) (by rw [Nat.mul_succ] at h;exact hM.mono h (by omega))
   show M.fit (if M.bad (itF M one arg k s).1 then _ else _ : σ×List β).1 a
   split
   · exact hM.mono h2 (by omega)
   · exact h1 _ _ _ h2
structure Lx (M:Md σ) (lo size:Nat) (A:Option Addr) (c n:Nat) (xs:List Value) (w:World):Prop where
 ls:Ls M size A n xs w
 lo:0<n→∀ad,A=some ad→lo≤ad.block
 kc:n≤c
 cm:c≤maxLen
theorem Lx.call {M:Md σ} {lo size c n:Nat} {A:Option Addr} {xs:List Value} {w w':World} (h:Lx M lo size A c n xs w) (s:Stp M w w'):Lx M lo size A c n xs w':=⟨h.ls.call s,h.lo,h.kc,h.cm⟩
theorem Lx.alloc {M:Md σ} (hM:MdOk M) {s:σ} {lo size c n:Nat} {A:Option Addr} {xs:List Value} {w:World} (h:Lx M lo size A c n xs w) (hs:M.St s w) (o:Obj):Lx M lo size A c n xs (w.alloc o):=⟨h.ls.alloc hM hs o,h.lo,h.kc,h.cm⟩
theorem Lx.only {M:Md σ} (hM:MdOk M) {s:σ} {lo size c n b:Nat} {A:Option Addr} {xs:List Value} {w w':World} (h:Lx M lo size A c n xs w) (hs:M.St s w) (ho:Only b w w') (hf:Free M b w) (hb:b<lo):Lx M lo size A c n xs w' :=
 ⟨h.ls.only hM hs ho hf (fun hn ad e=>by have:=h.lo hn ad e;omega),h.lo,h.kc,h.cm⟩
theorem Lx.mono {M:Md σ} {lo lo' size c n:Nat} {A:Option Addr} {xs:List Value} {w:World} (h:Lx M lo size A c n xs w) (hl:lo'≤lo):Lx M lo' size A c n xs w:=⟨h.ls,fun hn ad e=>Nat.le_trans hl (h.lo hn ad e),h.kc,h.cm⟩
def RetLs (M:Md σ) (size:Nat) (s':σ) (cells:List Value) (n:Nat) (w:World) (e:Ending) (w':World):Prop :=
 ∃A c,e = .returned (.slice A n c)∧Lx M w.heap.size size A c n cells w'∧M.St s' w'∧Stp M w w'
theorem Gr.list {M:Md σ} {w0 w1 wr:World} {t:TypeId} {size:Nat} {v:Value} {k:Nat} {xs:List Value} {s:σ} (h:Gr M w0 w1 t size v k xs s wr):RetLs M size s xs k w0 (.returned v) wr:=by
 obtain⟨A1,c1,rfl,h1,h2⟩:=own_slice h.own
 refine⟨A1,c1,rfl,⟨⟨Reads.of_own h.own,fun hk ad e=>?_⟩,fun hk ad e=>?_,h1,h2⟩,h.wk.st,h.wk.stp⟩
 · rcases h.own.2 with ⟨e',h0⟩ | ⟨b,c,cur,e',hb,-⟩
   · omega
   · injection e' with e' _ _
     rw [e] at e'
     obtain rfl:=Option.some.inj e'
     exact h.free b (by rw [e];rfl)
 · rcases h.own.2 with ⟨e',h0⟩ | ⟨b,c,cur,e',hb,-⟩
   · omega
   · injection e' with e' _ _
     rw [e] at e'
     obtain rfl:=Option.some.inj e'
     exact Nat.le_trans h.lo hb
theorem f_ints {M:Md σ} (hM:MdOk M) {s:σ} {a:Nat} {l:List Int} (hl:l.length≤1048576) (hI:∀i,I64 (l.getD i 0)) (h:M.fit s (a+10485770)):M.fit (intsF M s l).1 a:=by
 have h1:=hM.f_len (s:=s) (a:=a+10485760) (x:=l.length) h (by omega)
 have h2:=hM.r_len (s:=s) (x:=l.length) hl
 exact itF_fit hM (one:=M.int) (arg:=fun i=>l.getD i 0) (c:=10) (fun s i a h=>hM.f_int h (hI i)) _ a (hM.mono h1 (by omega))
theorem getD_I64 {l:List Int} (h:∀x ∈ l,I64 x) (i:Nat):I64 (l.getD i 0):=by
 rw [List.getD_eq_getElem?_getD]
 cases e:l[i]? with
 | none=>exact⟨by decide,by decide⟩
 | some x=>exact h x (List.mem_of_getElem? e)
theorem pf_ints (M:Md σ) (hM:MdOk M) (s:σ) (A:Option Addr) (n cap:Nat) (l:List Int) (w:World) (hS:Hid (M.St s w)) (hL:Hid (Ls M 1 A n (l.map iv) w)) (hn:Hid (l.length=n)) (hn2:n≤1048576) (hI:Hid (∀x ∈ l,I64 x)) (hz:Hid (M.write=false→l=[])) (hf:Hid (M.fit s 10485790)) :
 Calls Tryz.prog 109 #[.pointer (some ⟨M.g,0,none⟩),.slice A n cap] w (RetLs M 1 (intsF M s l).1 ((intsF M s l).2.map iv) (intsF M s l).2.length w):=by
 have HR:=Lh (show intsF M s l=itF M M.int (fun i=>l.getD i 0) (M.len s l.length).2 (M.len s l.length).1 from rfl)
 have HC:=Lh (hM.c_len s n w hS (by omega) (hM.mono hf.out (by omega)))
 have hm:=hM.r_len (s:=s) (x:=n) hn2
 have HW:=Lh (fun h=>hM.wlen h s n)
 have HF:=Lh (hM.f_len (s:=s) (a:=10485780) (x:=n) hf.out (by omega))
 rw [hn.out] at HR
 generalize intsF M s l=R at *
 generalize M.len s n=r at *
 obtain⟨s1,m⟩:=r
 simp only at HC HR hm HW HF
 go_enter Tryz.func109,Tryz.ntmps109
 go_wp2_with fail
 refine HC.out.mono ?_
 rintro e w1 ⟨rfl,hs1,hk1⟩
 have HG0:=Lh (Gr.start 3 1 ((Wk.start hS.out).call hs1 hk1))
 have HL1:=Lh (hL.out.call hk1)
 have HA:=Lh (show 0<n→∀ad,A=some ad→ad.block<w1.heap.size from fun h ad e=>(HL1.out.free h ad e).lt)
 clear hs1 hk1 HC
 go_wp2
 go_loopw [6,7,8] (fun vo vi _ wr=>∃ (k:Nat) (s':σ) (ys:List Int),k≤m∧vi = .int .i64 k∧Hid (itF M M.int (fun i=>l.getD i 0) k s1=(s',ys))∧Hid (Gr M w w1 3 1 vo k (ys.map iv) s' wr)∧Hid (Ls M 1 A n (l.map iv) wr)) (fun _ vi _ _=>m - (intOf vi).toNat)
 case atStart=>exact⟨0,s1,[],by omega,rfl,Lh rfl,HG0,HL1⟩
 case round =>
  obtain⟨k,s',ys,hk,rfl,hT,hG,hLr⟩:=hrel
  clear HG0 HL1
  have hcw:=hM.cwrite hG.out.wk.st
  have hcb:=hM.cbad hG.out.wk.st
  have hl:=Lh (show ys.length=k from by have:=hG.out.own.1;simpa using this)
  by_cases hlt:k<m
  · have d1:decide (k<m)=true:=decide_eq_true hlt
    cases hbad:M.bad s' with
    | true =>
      rw [hbad] at hcb
      clear hbad
      go_wp2
      go_ret
      have hb:M.bad (itF M M.int (fun i=>l.getD i 0) k s1).1=true:=by rw [hT.out];exact hM.cbad hG.out.wk.st |>.symm.trans hcb |> fun e=>by simpa using e
      rw [HR.out,itF_bad hb hk,hT.out]
      simp only
      rw [hl.out]
      exact hG.out.list
    | false =>
      rw [hbad] at hcb
      have HT1:=Lh (itF_more hT.out hbad)
      have hfk:=itF_fit hM (one:=M.int) (arg:=fun i=>l.getD i 0) (c:=10) (fun s i a h=>hM.f_int h (getD_I64 hI.out i)) k 10 (hM.mono HF.out (by omega))
      rw [hT.out] at hfk
      have HCI:=Lh (hM.c_int s' (l.getD k 0) wr (Lh hG.out.wk.st) (getD_I64 hI.out k) hfk)
      clear hbad hfk
      cases hw:M.write with
      | true =>
        rw [hw] at hcw
        obtain rfl:=HW.out hw
        obtain⟨ad,hA,hbl,hc⟩:=hLr.out.rd.2 (by omega:0<m)
        subst hA
        have hck:=hc k (iv (l.getD k 0)) (by rw [List.getElem?_map,List.getD_eq_getElem?_getD,List.getElem?_eq_getElem (by have:=hn.out;omega)];rfl)
        obtain⟨y,hy⟩:∃y,l.getD k 0=y:=⟨_,rfl⟩
        rw [hy] at hck HCI
        rw [hy] at HT1
        unfold iv at hck
        generalize M.int s' y=q at *
        obtain⟨s2,z⟩:=q
        simp only at HCI HT1
        clear hw hy hc hbl
        go_wp2_with (first
         | (go_at_call 107;refine HCI.out.mono ?_;rintro e w3 ⟨rfl,hs3,hk3⟩;have hG3:=Lh (hG.out.call hs3 hk3);have hL3:=Lh (hLr.out.call hk3);clear hs3 hk3)
         | (at_builtin
            refine wpl_gr hM rfl _ _ 28 _ 8 Tryz.underlying28 Tryz.infoI64 rfl (by decide) (by decide) rfl hG3.out (by omega) [.int .i64 z] rfl (by intro u hu;rw [List.mem_singleton.1 hu];rfl) rfl rfl ?_
            intro v4 w4 hG4))
        refine⟨⟨k+1,s2,ys ++ [z],by omega,by go_num,HT1,Lh (by rw [List.map_append];exact hG4.out.1),Lh (Ls.more hM (hG3.out.alloc hM _) hG4.out.2 (hL3.out.alloc hM hG3.out.wk.st _) HA.out)⟩,by simp [intOf];omega⟩
      | false =>
        rw [hw] at hcw
        have hy:l.getD k 0=0:=by rw [hz.out hw];rfl
        rw [hy] at HCI
        rw [hy] at HT1
        generalize M.int s' 0=q at *
        obtain⟨s2,z⟩:=q
        simp only at HCI HT1
        clear hw hy
        go_wp2_with (first
         | (go_at_call 107;refine HCI.out.mono ?_;rintro e w3 ⟨rfl,hs3,hk3⟩;have hG3:=Lh (hG.out.call hs3 hk3);have hL3:=Lh (hLr.out.call hk3);clear hs3 hk3)
         | (at_builtin
            refine wpl_gr hM rfl _ _ 28 _ 8 Tryz.underlying28 Tryz.infoI64 rfl (by decide) (by decide) rfl hG3.out (by omega) [.int .i64 z] rfl (by intro u hu;rw [List.mem_singleton.1 hu];rfl) rfl rfl ?_
            intro v4 w4 hG4))
        refine⟨⟨k+1,s2,ys ++ [z],by omega,by go_num,HT1,Lh (by rw [List.map_append];exact hG4.out.1),Lh (Ls.more hM (hG3.out.alloc hM _) hG4.out.2 (hL3.out.alloc hM hG3.out.wk.st _) HA.out)⟩,by simp [intOf];omega⟩
  · obtain rfl:k=m:=by omega
    go_wp2
    go_ret
    rw [HR.out,hT.out]
    simp only
    rw [hl.out]
    exact hG.out.list
end
section
open Go.RowKit OctMath
theorem Tryz.sizeI:(Tryz.prog.info? 46).map (·.size)=some 3:=by kernel_rfl
section
variable {g:Nat} {A:Option Addr} {n cap:Nat} {bs:List Nat} {w wr w2:World} {p q q':Nat}
end
end
section
open Go.RowKit OctMath
variable {σ:Type}
def idCs (x:IdT):Array Value:=#[.int .u64 (x.ver:Int),.int .i64 x.idx,.int .u64 (x.ep:Int)]
theorem f_id {M:Md σ} (hM:MdOk M) {s:σ} {a:Nat} {x:IdT} (h:M.fit s (a+30)) (HO:IdOk x):M.fit (idF M s x).1 a:=by
 show M.fit (bnd (M.u64 s x.ver) fun s1 y1=>bnd (M.int s1 x.idx) fun s2 y2=>bnd (M.u64 s2 x.ep) fun s3 y3=>(s3,⟨y1,y2,y3⟩):σ×(IdT)).1 a
 have h1:=hM.f_u64 (s:=s) (x:=x.ver) (a:=a+20) (hM.mono h (by omega)) HO.1
 generalize M.u64 s x.ver=r1 at *
 obtain⟨s1,y1⟩:=r1
 rw [bnd_mk]
 have h2:=hM.f_int (s:=s1) (x:=x.idx) (a:=a+10) (hM.mono h1 (by omega)) HO.2.1
 generalize M.int s1 x.idx=r2 at *
 obtain⟨s2,y2⟩:=r2
 rw [bnd_mk]
 have h3:=hM.f_u64 (s:=s2) (x:=x.ep) (a:=a+0) (hM.mono h2 (by omega)) HO.2.2
 generalize M.u64 s2 x.ep=r3 at *
 obtain⟨s3,y3⟩:=r3
 rw [bnd_mk]
 exact hM.mono h3 (by omega)
theorem pf_id (M:Md σ) (hM:MdOk M) (s:σ) (x:IdT) (w:World) (hS:Hid (M.St s w))  (HO:IdOk x)  (hf:M.fit s 30) :
 Calls Tryz.prog 142 #[.pointer (some ⟨M.g,0,none⟩),.agg #[.int .u64 (x.ver:Int),.int .i64 x.idx,.int .u64 (x.ep:Int)]] w (RetP M (idF M s x).1 (.agg (idCs (idF M s x).2)) w):=by
 have HR:=Lh (show idF M s x=bnd (M.u64 s x.ver) fun s1 y1=>bnd (M.int s1 x.idx) fun s2 y2=>bnd (M.u64 s2 x.ep) fun s3 y3=>(s3,⟨y1,y2,y3⟩) from rfl)
 have HF:=Lh hf
 have HO:=Lh HO
 obtain⟨w0,ew0⟩:∃w0,((w.alloc (.cells #[.int .u64 (x.ver:Int),.int .i64 x.idx,.int .u64 (x.ep:Int)] 46)).alloc (.cells #[.int .u64 0,.int .i64 0,.int .u64 0] 46))=w0:=⟨_,rfl⟩
 have hwa:=(Wk.start hS.out).alloc hM (.cells #[.int .u64 (x.ver:Int),.int .i64 x.idx,.int .u64 (x.ep:Int)] 46)
 have hx:=(Bk.new hM (Wk.start hS.out) #[.int .u64 (x.ver:Int),.int .i64 x.idx,.int .u64 (x.ep:Int)] 46).alloc hM hwa.st (.cells #[.int .u64 0,.int .i64 0,.int .u64 0] 46)
 have hr:Bk M w (w.heap.size+1) 46 #[.int .u64 0,.int .i64 0,.int .u64 0] ((w.alloc (.cells #[.int .u64 (x.ver:Int),.int .i64 x.idx,.int .u64 (x.ep:Int)] 46)).alloc (.cells #[.int .u64 0,.int .i64 0,.int .u64 0] 46)):=by have:=Bk.new hM hwa #[.int .u64 0,.int .i64 0,.int .u64 0] 46;simpa using this
 have hw:=hwa.alloc hM (.cells #[.int .u64 0,.int .i64 0,.int .u64 0] 46)
 rw [ew0] at hx hr hw
 have HX:=Lh hx
 have HB:=Lh hr
 have HW:=Lh hw
 clear hx hr hw hwa
 have cx0:=HX.out.blk.cell 0
 go_enter Tryz.func142,Tryz.ntmps142
 go_wp2_with fail
 clear ew0 cx0
 have HC:=Lh (hM.c_u64 s x.ver _ (Lh HW.out.st) HO.out.1 (hM.mono HF.out (by omega)))
 have HF:=Lh (hM.f_u64 (s:=s) (x:=x.ver) (a:=20) (hM.mono HF.out (by omega)) HO.out.1)
 generalize M.u64 s x.ver=r at *
 obtain⟨s1,y1⟩:=r
 rw [bnd_mk] at HR
 simp only at HC HF
 refine HC.out.mono ?_
 rintro e w1 ⟨rfl,hs,hk⟩
 clear HC
 have HX:=Lh (HX.out.call hk)
 have HB:=Lh (HB.out.call hk)
 have HW:=Lh (HW.out.call hs hk)
 clear hs hk
 have cx0:=HX.out.blk.cell 0
 have fx:=HX.out.blk.frozen
 have cx1:=HX.out.blk.cell 1
 go_wp2_with fail
 obtain⟨v1,ew⟩:∃v1,w1.setCell ⟨w.heap.size,0,none⟩ (.int .u64 (y1:Int))=v1:=⟨_,rfl⟩
 have hO:=(Only.set_ w1 w.heap.size 0 (.int .u64 (y1:Int)))
 have hB:Blk (w1.setCell ⟨w.heap.size,0,none⟩ (.int .u64 (y1:Int))) w.heap.size 46 #[.int .u64 (y1:Int),.int .i64 x.idx,.int .u64 (x.ep:Int)]:=by have:=(HX.out.blk.set_ 0 (.int .u64 (y1:Int)));simpa using this
 rw [ew] at hO hB ⊢
 have HB:=Lh (HB.out.only hM HW.out.st hO HX.out.free (by omega))
 have HX1:=Lh (HX.out.turn hM HW.out.st hO hB)
 have HW:=Lh (HW.out.only hM HX.out hO)
 have HX:=HX1
 clear HX1 ew hO hB fx cx0 cx1
 have HC:=Lh (hM.c_int s1 x.idx _ (Lh HW.out.st) HO.out.2.1 (hM.mono HF.out (by omega)))
 have HF:=Lh (hM.f_int (s:=s1) (x:=x.idx) (a:=10) (hM.mono HF.out (by omega)) HO.out.2.1)
 generalize M.int s1 x.idx=r at *
 obtain⟨s2,y2⟩:=r
 rw [bnd_mk] at HR
 simp only at HC HF
 refine HC.out.mono ?_
 rintro e w2 ⟨rfl,hs,hk⟩
 clear HC
 have HX:=Lh (HX.out.call hk)
 have HB:=Lh (HB.out.call hk)
 have HW:=Lh (HW.out.call hs hk)
 clear hs hk
 have cx1:=HX.out.blk.cell 1
 have fx:=HX.out.blk.frozen
 have cx2:=HX.out.blk.cell 2
 go_wp2_with fail
 obtain⟨v2,ew⟩:∃v2,w2.setCell ⟨w.heap.size,1,none⟩ (.int .i64 y2)=v2:=⟨_,rfl⟩
 have hO:=(Only.set_ w2 w.heap.size 1 (.int .i64 y2))
 have hB:Blk (w2.setCell ⟨w.heap.size,1,none⟩ (.int .i64 y2)) w.heap.size 46 #[.int .u64 (y1:Int),.int .i64 y2,.int .u64 (x.ep:Int)]:=by have:=(HX.out.blk.set_ 1 (.int .i64 y2));simpa using this
 rw [ew] at hO hB ⊢
 have HB:=Lh (HB.out.only hM HW.out.st hO HX.out.free (by omega))
 have HX1:=Lh (HX.out.turn hM HW.out.st hO hB)
 have HW:=Lh (HW.out.only hM HX.out hO)
 have HX:=HX1
 clear HX1 ew hO hB fx cx1 cx2
 have HC:=Lh (hM.c_u64 s2 x.ep _ (Lh HW.out.st) HO.out.2.2 (hM.mono HF.out (by omega)))
 have HF:=Lh (hM.f_u64 (s:=s2) (x:=x.ep) (a:=0) (hM.mono HF.out (by omega)) HO.out.2.2)
 generalize M.u64 s2 x.ep=r at *
 obtain⟨s3,y3⟩:=r
 rw [bnd_mk] at HR
 simp only at HC HF
 refine HC.out.mono ?_
 rintro e w3 ⟨rfl,hs,hk⟩
 clear HC
 have HX:=Lh (HX.out.call hk)
 have HB:=Lh (HB.out.call hk)
 have HW:=Lh (HW.out.call hs hk)
 clear hs hk
 have cx2:=HX.out.blk.cell 2
 have fx:=HX.out.blk.frozen
 have hO:=(Only.set_ w3 w.heap.size 2 (.int .u64 (y3:Int)))
 have hB:Blk (w3.setCell ⟨w.heap.size,2,none⟩ (.int .u64 (y3:Int))) w.heap.size 46 #[.int .u64 (y1:Int),.int .i64 y2,.int .u64 (y3:Int)]:=by have:=(HX.out.blk.set_ 2 (.int .u64 (y3:Int)));simpa using this
 have HB:=Lh (HB.out.only hM HW.out.st hO HX.out.free (by omega))
 have HX1:=Lh (HX.out.turn hM HW.out.st hO hB)
 have HW:=Lh (HW.out.only hM HX.out hO)
 have HX:=HX1
 clear HX1 hO hB
 go_wp2_with (first | (refine wpl_load_blk rfl 46 (.tmp 3) rfl w.heap.size 46 _ _ rfl HX.out.blk Tryz.underlying46 rfl Tryz.sizeI ?_) | (refine wpl_store_blk rfl 46 (.tmp 4) (.tmp 20) rfl (w.heap.size+1) 46 _ #[.int .u64 (y1:Int),.int .i64 y2,.int .u64 (y3:Int)] rfl rfl HB.out.blk rfl Tryz.sizeI rfl ?_;intro wf hB hO))
 have HW:=Lh (HW.out.only hM HB.out hO.out)
 refine bodyPost_ret (v := .agg #[.int .u64 (y1:Int),.int .i64 y2,.int .u64 (y3:Int)]) (res_c Tryz.results142 rfl (load_blk hB.out Tryz.underlying46 rfl Tryz.sizeI)) rfl ?_
 rw [HR.out]
 exact⟨rfl,HW.out.st,HW.out.stp⟩
end
section
open Go.RowKit OctMath
theorem mcells_append (a b:List (Int×Int)):mcells (a ++ b)=mcells a ++ mcells b:=by unfold mcells;rw [List.flatMap_append]
theorem Tryz.infoMem:(Tryz.prog.info? 67).map (fun i=>(i.zero,i.size,i.bytes))=some (some (.agg #[.int .i64 0,.int .i64 0]),2,16):=by kernel_rfl
end
section
open Go.RowKit OctMath
theorem Tryz.sizeMa:(Tryz.prog.info? 27).map (·.size)=some 2:=by kernel_rfl
end
section
open Go.RowKit OctMath
variable {σ:Type}
theorem Gr.list2 {M:Md σ} {w0 w1 wr:World} {t:TypeId} {size:Nat} {v:Value} {k:Nat} {xs:List Value} {s:σ} (h:Gr M w0 w1 t size v k xs s wr):∃A1 c1,v = .slice A1 k c1∧Lx M w1.heap.size size A1 c1 k xs wr:=by
 obtain⟨A1,c1,rfl,h1,h2⟩:=own_slice h.own
 refine⟨A1,c1,rfl,⟨Reads.of_own h.own,fun hk ad e=>?_⟩,fun hk ad e=>?_,h1,h2⟩
 · rcases h.own.2 with ⟨e',h0⟩ | ⟨b,c,cur,e',hb,-⟩
   · omega
   · injection e' with e' _ _
     rw [e] at e'
     obtain rfl:=Option.some.inj e'
     exact h.free b (by rw [e];rfl)
 · rcases h.own.2 with ⟨e',h0⟩ | ⟨b,c,cur,e',hb,-⟩
   · omega
   · injection e' with e' _ _
     rw [e] at e'
     obtain rfl:=Option.some.inj e'
     exact hb
theorem Gr.off {M:Md σ} {w0 w1 wr:World} {t:TypeId} {size:Nat} {v:Value} {k:Nat} {xs:List Value} {s:σ} (h:Gr M w0 w1 t size v k xs s wr) {x:Nat} (hx:wr.heap.size≤x):v.ownBlock≠some x:=fun e=>by have:=(h.free x e).lt;omega
theorem set_same_w {w:World} {g:Nat} {t:TypeId} {cs:Array Value} {i:Nat} {u:Value} (h:Blk w g t cs) (hi:cs[i]?=some u):w.setCell ⟨g,i,none⟩ u=w:=by
 rw [setCell_eq_setRow w g i cs t (0,0) u h]
 have e:cs.setIfInBounds i u=cs:=by
  apply Array.ext_getElem?
  intro j
  rw [Array.getElem?_setIfInBounds]
  split
  · rename_i hij;subst hij;rw [hi];split
    · rfl
    · rename_i hl;rw [Array.getElem?_eq_none (by omega)] at hi;cases hi
  · rfl
 rw [e]
 exact setRow_self w g cs t (0,0) h
theorem mcells_get1 {l:List (Int×Int)} {k:Nat} (h:k<l.length):(mcells l)[k*2]?=some (iv (l.getD k (0,0)).1)∧(mcells l)[k*2+1]?=some (iv (l.getD k (0,0)).2):=by
 induction l generalizing k with
 | nil=>simp at h
 | cons p l ih =>
   cases k with
   | zero=>exact⟨rfl,rfl⟩
   | succ k =>
     have:=ih (k:=k) (by simpa using h)
     have e1:mcells (p :: l)=iv p.1 :: iv p.2 :: mcells l:=rfl
     rw [e1,show (k+1)*2=k*2+1+1 by omega]
     exact this
theorem addr_next (a:Addr) (k:Nat):a.add (k+1)={ block:=(a.add k).block,off:=(a.add k).off+1 }:=by
 unfold Addr.add
 by_cases h:k=0
 · subst h;simp
 · simp [h];omega
theorem getD_mem {l:List (Int×Int)} (h:∀x ∈ l,MemOk x) (i:Nat):MemOk (l.getD i (0,0)):=by
 rw [List.getD_eq_getElem?_getD]
 cases e:l[i]? with
 | none=>exact⟨⟨by decide,by decide⟩,⟨by decide,by decide⟩⟩
 | some x=>exact h x (List.mem_of_getElem? e)
theorem f_mem {M:Md σ} (hM:MdOk M) {s:σ} {a:Nat} {x:Int×Int} (HO:MemOk x) (h:M.fit s (a+20)):M.fit (memF M s x).1 a:=by
 have h1:=hM.f_int (s:=s) (a:=a+10) (x:=x.1) (hM.mono h (by omega)) HO.1
 show M.fit (bnd (M.int s x.1) fun s1 y1=>bnd (M.int s1 x.2) fun s2 y2=>(s2,(y1,y2)):σ×(Int×Int)).1 a
 generalize M.int s x.1=r at *
 obtain⟨s1,y1⟩:=r
 rw [bnd_mk]
 exact hM.f_int h1 HO.2
theorem f_mems {M:Md σ} (hM:MdOk M) {s:σ} {a:Nat} {l:List (Int×Int)} (hl:l.length≤1048576) (hI:∀i,MemOk (l.getD i (0,0))) (h:M.fit s (a+20971530)):M.fit (memsF M s l).1 a:=by
 have h1:=hM.f_len (s:=s) (a:=a+20971520) (x:=l.length) h (by omega)
 have h2:=hM.r_len (s:=s) (x:=l.length) hl
 exact itF_fit hM (one:=memF M) (arg:=fun i=>l.getD i (0,0)) (c:=20) (fun s i a h=>f_mem hM (hI i) h) _ a (hM.mono h1 (by omega))
theorem f_map {M:Md σ} (hM:MdOk M) {s:σ} {a:Nat} {x:Nat×List (Int×Int)} (HO:MapOk x) (h:M.fit s (a+20971540)):M.fit (mapF M s x).1 a:=by
 have h1:=hM.f_u64 (s:=s) (a:=a+20971530) (x:=x.1) (hM.mono h (by omega)) HO.1
 show M.fit (bnd (M.u64 s x.1) fun s1 y1=>bnd (memsF M s1 x.2) fun s2 y2=>(s2,(y1,y2)):σ×(Nat×List (Int×Int))).1 a
 generalize M.u64 s x.1=r at *
 obtain⟨s1,y1⟩:=r
 rw [bnd_mk]
 exact f_mems hM HO.2.2 (getD_mem HO.2.1) h1
def RetMp (M:Md σ) (s':σ) (y:Nat×List (Int×Int)) (w:World) (e:Ending) (w':World):Prop :=
 ∃A c,e = .returned (.agg #[.int .u64 (y.1:Int),.slice A y.2.length c])∧Lx M w.heap.size 2 A c y.2.length (mcells y.2) w'∧M.St s' w'∧Stp M w w'
theorem pf_map (M:Md σ) (hM:MdOk M) (s:σ) (A:Option Addr) (cap:Nat) (x:Nat×List (Int×Int)) (w:World) (hS:Hid (M.St s w)) (hL:Hid (Ls M 2 A x.2.length (mcells x.2) w)) (HO:MapOk x) (hz:Hid (M.write=false→x.2=[])) (hf:Hid (M.fit s 20971550)) :
 Calls Tryz.prog 108 #[.pointer (some ⟨M.g,0,none⟩),.agg #[.int .u64 (x.1:Int),.slice A x.2.length cap]] w (RetMp M (mapF M s x).1 (mapF M s x).2 w):=by
 obtain⟨ep,l⟩:=x
 obtain⟨n,hn⟩:∃n,l.length=n:=⟨_,rfl⟩
 have HN:=Lh hn
 obtain⟨ho1,ho2,ho3⟩:=HO
 simp only at hL hz ho1 ho2 ho3 ⊢
 rw [hn] at hL ho3 ⊢
 have HM:=Lh ho2
 clear ho2 hn
 have HR:=Lh (show mapF M s (ep,l)=bnd (M.u64 s ep) fun s1 y1=>bnd (memsF M s1 l) fun s2 y2=>(s2,(y1,y2)) from rfl)
 have HF:=Lh hf.out
 obtain⟨b,hb⟩:∃b,w.heap.size=b:=⟨_,rfl⟩
 have HBW:=Lh hb
 obtain⟨w0,ew0⟩:∃w0,((w.alloc (.cells #[.int .u64 (ep:Int),.slice A n cap] 27)).alloc (.cells #[.int .u64 0,.slice none 0 0] 27))=w0:=⟨_,rfl⟩
 have hwa:=(Wk.start hS.out).alloc hM (.cells #[.int .u64 (ep:Int),.slice A n cap] 27)
 have hx:=(Bk.new hM (Wk.start hS.out) #[.int .u64 (ep:Int),.slice A n cap] 27).alloc hM hwa.st (.cells #[.int .u64 0,.slice none 0 0] 27)
 have hr:Bk M w (b+1) 27 #[.int .u64 0,.slice none 0 0] ((w.alloc (.cells #[.int .u64 (ep:Int),.slice A n cap] 27)).alloc (.cells #[.int .u64 0,.slice none 0 0] 27)):=by have:=Bk.new hM hwa #[.int .u64 0,.slice none 0 0] 27;rw [← hb];simpa using this
 have hw:=hwa.alloc hM (.cells #[.int .u64 0,.slice none 0 0] 27)
 have hK1:=(hL.out.alloc hM hS.out (.cells #[.int .u64 (ep:Int),.slice A n cap] 27)).alloc hM hwa.st (.cells #[.int .u64 0,.slice none 0 0] 27)
 have aK:=Lh (hL.out.apart (Nat.le_refl _))
 rw [ew0] at hx hr hw hK1
 rw [hb] at hx aK
 have HX:=Lh hx
 have HB:=Lh hr
 have HW:=Lh hw
 have HK:=Lh hK1
 clear hx hr hw hwa hK1
 have cx0:=HX.out.blk.cell 0
 go_enter Tryz.func108,Tryz.ntmps108
 go_wp2_with fail
 clear ew0 cx0
 have HC:=Lh (hM.c_u64 s ep _ (Lh HW.out.st) ho1 (hM.mono HF.out (by omega)))
 have HF:=Lh (hM.f_u64 (s:=s) (a:=20971540) (x:=ep) (hM.mono HF.out (by omega)) ho1)
 generalize M.u64 s ep=r at *
 obtain⟨s1,y1⟩:=r
 rw [bnd_mk] at HR
 simp only at HC HF
 refine HC.out.mono ?_
 rintro e w1 ⟨rfl,hs,hk⟩
 clear HC
 have HK:=Lh (HK.out.call hk)
 have HX:=Lh (HX.out.call hk)
 have HB:=Lh (HB.out.call hk)
 have HW:=Lh (HW.out.call hs hk)
 clear hs hk
 have cx0:=HX.out.blk.cell 0
 have cx1:=HX.out.blk.cell 1
 have fx:=HX.out.blk.frozen
 go_wp2_with fail
 obtain⟨v1,ew⟩:∃v1,w1.setCell ⟨b,0,none⟩ (.int .u64 (y1:Int))=v1:=⟨_,rfl⟩
 have hO:=Only.set_ w1 b 0 (.int .u64 (y1:Int))
 have hB:Blk (w1.setCell ⟨b,0,none⟩ (.int .u64 (y1:Int))) b 27 #[.int .u64 (y1:Int),.slice A n cap]:=by have:=HX.out.blk.set_ 0 (.int .u64 (y1:Int));simpa using this
 rw [ew] at hO hB ⊢
 have HK:=Lh (HK.out.only hM HW.out.st hO HX.out.free aK.out)
 have HB:=Lh (HB.out.only hM HW.out.st hO HX.out.free (by omega))
 have HX1:=Lh (HX.out.turn hM HW.out.st hO hB)
 have HW:=Lh (HW.out.only hM HX.out hO)
 have HX:=HX1
 clear HX1 ew hO hB fx cx0 cx1
 have HC:=Lh (hM.c_len s1 n _ (Lh HW.out.st) (by omega) (hM.mono HF.out (by omega)))
 have HF:=Lh (hM.f_len (s:=s1) (a:=20971530) (x:=n) (hM.mono HF.out (by omega)) (by omega))
 have hm:=hM.r_len (s:=s1) (x:=n) ho3
 have HWL:=Lh (fun h=>hM.wlen h s1 n)
 have HR2:=Lh (show memsF M s1 l=itF M (memF M) (fun i=>l.getD i (0,0)) (M.len s1 l.length).2 (M.len s1 l.length).1 from rfl)
 rw [HN.out] at HR2
 generalize M.len s1 n=r at *
 obtain⟨s2,m⟩:=r
 simp only at HC HF hm HWL HR2
 refine HC.out.mono ?_
 rintro e w2 ⟨rfl,hs,hk⟩
 clear HC
 have HK:=Lh (HK.out.call hk)
 have HX:=Lh (HX.out.call hk)
 have HB:=Lh (HB.out.call hk)
 have HW:=Lh (HW.out.call hs hk)
 clear hs hk
 have HA:=Lh (show 0<n→∀ad,A=some ad→ad.block<w2.heap.size from fun h ad e=>(HK.out.free h ad e).lt)
 have HBL:=Lh HB.out.free.lt
 have HG0:=Lh (Gr.start 67 2 HW.out)
 go_wp2
 clear hb
 go_loopw [6,7,8] (fun vo vi _ wr=>∃ (k:Nat) (s':σ) (ys:List (Int×Int)),k≤m∧vi = .int .i64 k∧Hid (itF M (memF M) (fun i=>l.getD i (0,0)) k s2=(s',ys))∧Hid (Gr M w w2 67 2 vo k (mcells ys) s' wr)∧Hid (ys.length=k)∧Hid (Ls M 2 A n (mcells l) wr)∧Hid (Bk M w b 27 #[.int .u64 (y1:Int),.slice A n cap] wr)∧Hid (Bk M w (b+1) 27 #[.int .u64 0,.slice none 0 0] wr)) (fun _ vi _ _=>m - (intOf vi).toNat)
 case atStart=>exact⟨0,s2,[],by omega,rfl,Lh rfl,HG0,Lh rfl,HK,HX,HB⟩
 case round =>
  obtain⟨k,s',ys,hk,rfl,hT,hG,hlen,hLr,hX,hB⟩:=hrel
  clear HG0 HK HX HB HW
  have hcw:=hM.cwrite hG.out.wk.st
  have hcb:=hM.cbad hG.out.wk.st
  by_cases hlt:k<m
  · have d1:decide (k<m)=true:=decide_eq_true hlt
    cases hbad:M.bad s' with
    | true =>
      rw [hbad] at hcb
      have hbb:M.bad (itF M (memF M) (fun i=>l.getD i (0,0)) k s2).1=true:=by rw [hT.out];exact hbad
      have HE:=Lh ((HR2.out.trans (itF_bad hbb hk)).trans hT.out)
      clear hbad hbb
      obtain⟨A1,c1,rfl,hl1⟩:=hG.out.list2
      have hL1:=Lh hl1
      have p1:=hX.out.blk.cell 1
      have p2:=hX.out.blk.frozen 1
      obtain⟨w3,ew3⟩:∃w3,wr.setCell ⟨b,1,none⟩ (.slice A1 k c1)=w3:=⟨_,rfl⟩
      have hO:=Only.set_ wr b 1 (.slice A1 k c1)
      have hB3:Blk (wr.setCell ⟨b,1,none⟩ (.slice A1 k c1)) b 27 #[.int .u64 (y1:Int),.slice A1 k c1]:=by have:=hX.out.blk.set_ 1 (.slice A1 k c1);simpa using this
      rw [ew3] at hO hB3
      have h2:=HBL.out
      have L3:=Lh (hL1.out.only hM hG.out.wk.st hO hX.out.free (by omega))
      have Q3:=Lh (hB.out.only hM hG.out.wk.st hO hX.out.free (by omega))
      have P3:=Lh (hX.out.turn hM hG.out.wk.st hO hB3)
      have W3:=Lh (hG.out.wk.only hM hX.out hO)
      clear hO hB3 h2 hl1
      go_wp2_with (first | (refine wpl_load_blk rfl 27 (.tmp 3) rfl b 27 _ _ rfl P3.out.blk Tryz.underlying27 rfl Tryz.sizeMa ?_) | (refine wpl_store_blk rfl 27 (.tmp 4) (.tmp 57) rfl (b+1) 27 _ #[.int .u64 (y1:Int),.slice A1 k c1] rfl rfl Q3.out.blk rfl Tryz.sizeMa rfl ?_;intro wf hB5 hO5))
      have h2:=HBL.out
      have L5:=Lh (L3.out.only hM W3.out.st hO5.out Q3.out.free h2)
      have W5:=Lh (W3.out.only hM Q3.out hO5.out)
      refine bodyPost_ret (v := .agg #[.int .u64 (y1:Int),.slice A1 k c1]) (res_c Tryz.results108 rfl (load_blk hB5.out Tryz.underlying27 rfl Tryz.sizeMa)) rfl ?_
      rw [HR.out,HE.out,bnd_mk]
      refine⟨A1,c1,?_,?_,W5.out.st,W5.out.stp⟩
      · simp only;rw [hlen.out]
      · simp only;rw [hlen.out];exact L5.out.mono (by have:=HBW.out;omega)
    | false =>
      rw [hbad] at hcb
      have HT1:=Lh (itF_more hT.out hbad)
      have hfk:=itF_fit hM (one:=memF M) (arg:=fun i=>l.getD i (0,0)) (c:=20) (fun s i a h=>f_mem hM (getD_mem HM.out i) h) k 20 (hM.mono HF.out (by omega))
      rw [hT.out] at hfk
      have HFK:=Lh hfk
      have HMK:=Lh (getD_mem HM.out k)
      clear hbad hfk
      obtain⟨x,hx⟩:∃x,wr.heap.size=x:=⟨_,rfl⟩
      obtain⟨w4,ew4⟩:∃w4,wr.alloc (.cells #[.int .i64 0,.int .i64 0] 67)=w4:=⟨_,rfl⟩
      have hX4:=Bk.new hM hG.out.wk #[.int .i64 0,.int .i64 0] 67
      have hG4:=hG.out.alloc hM (.cells #[.int .i64 0,.int .i64 0] 67)
      have hL4:=hLr.out.alloc hM hG.out.wk.st (.cells #[.int .i64 0,.int .i64 0] 67)
      have hP4:=hX.out.alloc hM hG.out.wk.st (.cells #[.int .i64 0,.int .i64 0] 67)
      have hQ4:=hB.out.alloc hM hG.out.wk.st (.cells #[.int .i64 0,.int .i64 0] 67)
      have hof:=Lh (hG.out.off (Nat.le_refl _))
      have hap:=Lh (hLr.out.apart (Nat.le_refl _))
      have hbx:=Lh (show b+1<wr.heap.size from hB.out.free.lt)
      rw [ew4] at hX4 hG4 hL4 hP4 hQ4
      rw [hx] at hX4 hof hap hbx
      have hbx':=hbx.out
      have y0:=hX4.blk.cell 0
      have y1':=hX4.blk.cell 1
      have y2:=hX4.blk.frozen 0
      have y3:=hX4.blk.frozen 1
      have hz0:w4.setCell ⟨x,0,none⟩ (.int .i64 0)=w4:=set_same_w hX4.blk rfl
      have hz1:w4.setCell ⟨x,1,none⟩ (.int .i64 0)=w4:=set_same_w hX4.blk rfl
      have xm:=hP4.blk.cell 1
      have pw:=hM.cwrite hG4.wk.st
      have X4:=Lh hX4
      have G4:=Lh hG4
      have L4:=Lh hL4
      have P4:=Lh hP4
      have Q4:=Lh hQ4
      clear hX4 hG4 hL4 hP4 hQ4
      cases hw:M.write with
      | true =>
        rw [hw] at pw hcw
        obtain rfl:=HWL.out hw
        obtain⟨ad,hA,hbl,hc⟩:=L4.out.rd.2 (by omega:0<m)
        subst hA
        obtain⟨hc1,hc2⟩:=mcells_get1 (l:=l) (k:=k) (by have:=HN.out;omega)
        have hc3:=hc _ _ hc1
        have hc4:=hc _ _ hc2
        have hc4:w4.cell? { block:=(ad.add (k*2)).block,off:=(ad.add (k*2)).off+1 }=some (iv (l.getD k (0,0)).2):=by rw [← addr_next];exact hc4
        obtain⟨p,hp⟩:∃p,l.getD k (0,0)=p:=⟨_,rfl⟩
        rw [hp] at hc3 hc4 HT1 HMK
        obtain⟨mid,wt⟩:=p
        unfold iv at hc3 hc4
        simp only at hc3 hc4
        clear hp hw hc hbl hc1 hc2
        obtain⟨w5,ew5⟩:∃w5,(w4.setCell ⟨x,0,none⟩ (.int .i64 mid)).setCell ⟨x,1,none⟩ (.int .i64 wt)=w5:=⟨_,rfl⟩
        have hO:=(Only.set_ w4 x 0 (.int .i64 mid)).trans (Only.set_ (w4.setCell ⟨x,0,none⟩ (.int .i64 mid)) x 1 (.int .i64 wt))
        have hB5:Blk ((w4.setCell ⟨x,0,none⟩ (.int .i64 mid)).setCell ⟨x,1,none⟩ (.int .i64 wt)) x 67 #[.int .i64 mid,.int .i64 wt]:=by have:=(X4.out.blk.set_ 0 (.int .i64 mid)).set_ 1 (.int .i64 wt);simpa using this
        rw [ew5] at hO hB5
        have G5:=Lh (G4.out.only hM X4.out hO hof.out)
        have X5:=Lh (X4.out.turn hM G4.out.wk.st hO hB5)
        have L5:=Lh (L4.out.only hM G4.out.wk.st hO X4.out.free hap.out)
        have P5:=Lh (P4.out.only hM G4.out.wk.st hO X4.out.free (by omega))
        have Q5:=Lh (Q4.out.only hM G4.out.wk.st hO X4.out.free (by omega))
        clear hO hB5
        have q0:=X5.out.blk.cell 0
        have q1:=X5.out.blk.cell 1
        have q2:=X5.out.blk.frozen 0
        have HR3:=Lh (show memF M s' (mid,wt)=bnd (M.int s' mid) fun s1 y1=>bnd (M.int s1 wt) fun s2 y2=>(s2,(y1,y2)) from rfl)
        have HC1:=Lh (hM.c_int s' mid w5 (Lh G5.out.wk.st) HMK.out.1 (hM.mono HFK.out (by omega)))
        have HF1:=Lh (hM.f_int (s:=s') (a:=10) (x:=mid) HFK.out HMK.out.1)
        generalize M.int s' mid=r at *
        obtain⟨s3,z1⟩:=r
        simp only at HC1 HF1
        rw [bnd_mk] at HR3
        have HC2:=Lh (fun W hW=>hM.c_int s3 wt W hW HMK.out.2 HF1.out)
        generalize M.int s3 wt=r at *
        obtain⟨s4,z2⟩:=r
        simp only at HC2
        rw [bnd_mk] at HR3
        rw [HR3.out] at HT1
        simp only at HT1
        have tk1:True:=trivial
        go_wp2_with (first
         | (have _t:=tk1;go_at_call 107;refine HC1.out.mono ?_;rintro en w6 ⟨rfl,hs6,hk6⟩
            have G6:=Lh (G5.out.call hs6 hk6)
            have X6:=Lh (X5.out.call hk6)
            have L6:=Lh (L5.out.call hk6)
            have P6:=Lh (P5.out.call hk6)
            have Q6:=Lh (Q5.out.call hk6)
            clear q0 q1 q2 ew5 ew4 xm pw hcw hc3 hc4 y0 y1' y2 y3 hz0 hz1
            have q0:=X6.out.blk.cell 0
            have q2:=X6.out.blk.frozen 0
            obtain⟨w7,ew7⟩:∃w7,w6.setCell ⟨x,0,none⟩ (.int .i64 z1)=w7:=⟨_,rfl⟩
            have hO:=Only.set_ w6 x 0 (.int .i64 z1)
            have hB7:Blk (w6.setCell ⟨x,0,none⟩ (.int .i64 z1)) x 67 #[.int .i64 z1,.int .i64 wt]:=(by have:=X6.out.blk.set_ 0 (.int .i64 z1);simpa using this)
            rw [ew7] at hO hB7
            have G7:=Lh (G6.out.only hM X6.out hO hof.out)
            have X7:=Lh (X6.out.turn hM G6.out.wk.st hO hB7)
            have L7:=Lh (L6.out.only hM G6.out.wk.st hO X6.out.free hap.out)
            have P7:=Lh (P6.out.only hM G6.out.wk.st hO X6.out.free (by have:=hbx.out;omega))
            have Q7:=Lh (Q6.out.only hM G6.out.wk.st hO X6.out.free (by have:=hbx.out;omega))
            have q1:=X7.out.blk.cell 1
            have HC3:=Lh (HC2.out w7 (Lh G7.out.wk.st))
            clear hO hB7 tk1 _t hs6 hk6)
         | (go_at_call 107;refine HC3.out.mono ?_;rintro en w8 ⟨rfl,hs8,hk8⟩
            have G8:=Lh (G7.out.call hs8 hk8)
            have X8:=Lh (X7.out.call hk8)
            have L8:=Lh (L7.out.call hk8)
            have P8:=Lh (P7.out.call hk8)
            have Q8:=Lh (Q7.out.call hk8)
            clear q0 q1 q2 ew7
            have q1:=X8.out.blk.cell 1
            have q2:=X8.out.blk.frozen 1
            obtain⟨w9,ew9⟩:∃w9,w8.setCell ⟨x,1,none⟩ (.int .i64 z2)=w9:=⟨_,rfl⟩
            have hO:=Only.set_ w8 x 1 (.int .i64 z2)
            have hB9:Blk (w8.setCell ⟨x,1,none⟩ (.int .i64 z2)) x 67 #[.int .i64 z1,.int .i64 z2]:=(by have:=X8.out.blk.set_ 1 (.int .i64 z2);simpa using this)
            rw [ew9] at hO hB9
            have G9:=Lh (G8.out.only hM X8.out hO hof.out)
            have X9:=Lh (X8.out.turn hM G8.out.wk.st hO hB9)
            have L9:=Lh (L8.out.only hM G8.out.wk.st hO X8.out.free hap.out)
            have P9:=Lh (P8.out.only hM G8.out.wk.st hO X8.out.free (by have:=hbx.out;omega))
            have Q9:=Lh (Q8.out.only hM G8.out.wk.st hO X8.out.free (by have:=hbx.out;omega))
            have r0:=X9.out.blk.cell 0
            have r1:=X9.out.blk.cell 1
            clear hO hB9 hs8 hk8)
         | (at_builtin
            refine wpl_gr hM rfl _ _ 25 _ 16 Tryz.underlying25 Tryz.infoMem rfl (by decide) (by decide) rfl G9.out (by omega) [.int .i64 z1,.int .i64 z2] rfl (by intro u hu;simp only [List.mem_cons,List.not_mem_nil,or_false] at hu;rcases hu with rfl | rfl <;> rfl) rfl rfl ?_
            intro v10 w10 hG10))
        have h2:=HBL.out
        refine⟨⟨k+1,s4,ys ++ [(z1,z2)],by omega,by go_num,HT1,Lh (by rw [mcells_append];exact hG10.out.1),Lh (by rw [List.length_append,hlen.out];rfl),Lh (Ls.more hM (G9.out.alloc hM _) hG10.out.2 (L9.out.alloc hM G9.out.wk.st _) HA.out),Lh (Bk.more hM (G9.out.alloc hM _) hG10.out.2 (P9.out.alloc hM G9.out.wk.st _) (by omega)),Lh (Bk.more hM (G9.out.alloc hM _) hG10.out.2 (Q9.out.alloc hM G9.out.wk.st _) h2)⟩,by simp [intOf];omega⟩
      | false =>
        rw [hw] at pw hcw
        have hp:l.getD k (0,0)=(0,0):=by rw [hz.out hw];rfl
        rw [hp] at HT1 HMK
        clear hp hw
        have q0:=X4.out.blk.cell 0
        have q1:=X4.out.blk.cell 1
        have q2:=X4.out.blk.frozen 0
        have HR3:=Lh (show memF M s' ((0:Int),(0:Int))=bnd (M.int s' (0:Int)) fun s1 y1=>bnd (M.int s1 (0:Int)) fun s2 y2=>(s2,(y1,y2)) from rfl)
        have HC1:=Lh (hM.c_int s' (0:Int) w4 (Lh G4.out.wk.st) HMK.out.1 (hM.mono HFK.out (by omega)))
        have HF1:=Lh (hM.f_int (s:=s') (a:=10) (x:=(0:Int)) HFK.out HMK.out.1)
        generalize M.int s' (0:Int)=r at *
        obtain⟨s3,z1⟩:=r
        simp only at HC1 HF1
        rw [bnd_mk] at HR3
        have HC2:=Lh (fun W hW=>hM.c_int s3 (0:Int) W hW HMK.out.2 HF1.out)
        generalize M.int s3 (0:Int)=r at *
        obtain⟨s4,z2⟩:=r
        simp only at HC2
        rw [bnd_mk] at HR3
        rw [HR3.out] at HT1
        simp only at HT1
        have tk1:True:=trivial
        go_wp2_with (first
         | (have _t:=tk1;go_at_call 107;refine HC1.out.mono ?_;rintro en w6 ⟨rfl,hs6,hk6⟩
            have G6:=Lh (G4.out.call hs6 hk6)
            have X6:=Lh (X4.out.call hk6)
            have L6:=Lh (L4.out.call hk6)
            have P6:=Lh (P4.out.call hk6)
            have Q6:=Lh (Q4.out.call hk6)
            clear q0 q1 q2 ew4 xm pw hcw y0 y1' y2 y3 hz0 hz1
            have q0:=X6.out.blk.cell 0
            have q2:=X6.out.blk.frozen 0
            obtain⟨w7,ew7⟩:∃w7,w6.setCell ⟨x,0,none⟩ (.int .i64 z1)=w7:=⟨_,rfl⟩
            have hO:=Only.set_ w6 x 0 (.int .i64 z1)
            have hB7:Blk (w6.setCell ⟨x,0,none⟩ (.int .i64 z1)) x 67 #[.int .i64 z1,.int .i64 (0:Int)]:=(by have:=X6.out.blk.set_ 0 (.int .i64 z1);simpa using this)
            rw [ew7] at hO hB7
            have G7:=Lh (G6.out.only hM X6.out hO hof.out)
            have X7:=Lh (X6.out.turn hM G6.out.wk.st hO hB7)
            have L7:=Lh (L6.out.only hM G6.out.wk.st hO X6.out.free hap.out)
            have P7:=Lh (P6.out.only hM G6.out.wk.st hO X6.out.free (by have:=hbx.out;omega))
            have Q7:=Lh (Q6.out.only hM G6.out.wk.st hO X6.out.free (by have:=hbx.out;omega))
            have q1:=X7.out.blk.cell 1
            have HC3:=Lh (HC2.out w7 (Lh G7.out.wk.st))
            clear hO hB7 tk1 _t hs6 hk6)
         | (go_at_call 107;refine HC3.out.mono ?_;rintro en w8 ⟨rfl,hs8,hk8⟩
            have G8:=Lh (G7.out.call hs8 hk8)
            have X8:=Lh (X7.out.call hk8)
            have L8:=Lh (L7.out.call hk8)
            have P8:=Lh (P7.out.call hk8)
            have Q8:=Lh (Q7.out.call hk8)
            clear q0 q1 q2 ew7
            have q1:=X8.out.blk.cell 1
            have q2:=X8.out.blk.frozen 1
            obtain⟨w9,ew9⟩:∃w9,w8.setCell ⟨x,1,none⟩ (.int .i64 z2)=w9:=⟨_,rfl⟩
            have hO:=Only.set_ w8 x 1 (.int .i64 z2)
            have hB9:Blk (w8.setCell ⟨x,1,none⟩ (.int .i64 z2)) x 67 #[.int .i64 z1,.int .i64 z2]:=(by have:=X8.out.blk.set_ 1 (.int .i64 z2);simpa using this)
            rw [ew9] at hO hB9
            have G9:=Lh (G8.out.only hM X8.out hO hof.out)
            have X9:=Lh (X8.out.turn hM G8.out.wk.st hO hB9)
            have L9:=Lh (L8.out.only hM G8.out.wk.st hO X8.out.free hap.out)
            have P9:=Lh (P8.out.only hM G8.out.wk.st hO X8.out.free (by have:=hbx.out;omega))
            have Q9:=Lh (Q8.out.only hM G8.out.wk.st hO X8.out.free (by have:=hbx.out;omega))
            have r0:=X9.out.blk.cell 0
            have r1:=X9.out.blk.cell 1
            clear hO hB9 hs8 hk8)
         | (at_builtin
            refine wpl_gr hM rfl _ _ 25 _ 16 Tryz.underlying25 Tryz.infoMem rfl (by decide) (by decide) rfl G9.out (by omega) [.int .i64 z1,.int .i64 z2] rfl (by intro u hu;simp only [List.mem_cons,List.not_mem_nil,or_false] at hu;rcases hu with rfl | rfl <;> rfl) rfl rfl ?_
            intro v10 w10 hG10))
        have h2:=HBL.out
        refine⟨⟨k+1,s4,ys ++ [(z1,z2)],by omega,by go_num,HT1,Lh (by rw [mcells_append];exact hG10.out.1),Lh (by rw [List.length_append,hlen.out];rfl),Lh (Ls.more hM (G9.out.alloc hM _) hG10.out.2 (L9.out.alloc hM G9.out.wk.st _) HA.out),Lh (Bk.more hM (G9.out.alloc hM _) hG10.out.2 (P9.out.alloc hM G9.out.wk.st _) (by omega)),Lh (Bk.more hM (G9.out.alloc hM _) hG10.out.2 (Q9.out.alloc hM G9.out.wk.st _) h2)⟩,by simp [intOf];omega⟩
  · obtain rfl:k=m:=by omega
    have HE:=Lh (HR2.out.trans hT.out)
    obtain⟨A1,c1,rfl,hl1⟩:=hG.out.list2
    have hL1:=Lh hl1
    have p1:=hX.out.blk.cell 1
    have p2:=hX.out.blk.frozen 1
    obtain⟨w3,ew3⟩:∃w3,wr.setCell ⟨b,1,none⟩ (.slice A1 k c1)=w3:=⟨_,rfl⟩
    have hO:=Only.set_ wr b 1 (.slice A1 k c1)
    have hB3:Blk (wr.setCell ⟨b,1,none⟩ (.slice A1 k c1)) b 27 #[.int .u64 (y1:Int),.slice A1 k c1]:=by have:=hX.out.blk.set_ 1 (.slice A1 k c1);simpa using this
    rw [ew3] at hO hB3
    have h2:=HBL.out
    have L3:=Lh (hL1.out.only hM hG.out.wk.st hO hX.out.free (by omega))
    have Q3:=Lh (hB.out.only hM hG.out.wk.st hO hX.out.free (by omega))
    have P3:=Lh (hX.out.turn hM hG.out.wk.st hO hB3)
    have W3:=Lh (hG.out.wk.only hM hX.out hO)
    clear hO hB3 h2 hl1
    go_wp2_with (first | (refine wpl_load_blk rfl 27 (.tmp 3) rfl b 27 _ _ rfl P3.out.blk Tryz.underlying27 rfl Tryz.sizeMa ?_) | (refine wpl_store_blk rfl 27 (.tmp 4) (.tmp 57) rfl (b+1) 27 _ #[.int .u64 (y1:Int),.slice A1 k c1] rfl rfl Q3.out.blk rfl Tryz.sizeMa rfl ?_;intro wf hB5 hO5))
    have h2:=HBL.out
    have L5:=Lh (L3.out.only hM W3.out.st hO5.out Q3.out.free h2)
    have W5:=Lh (W3.out.only hM Q3.out hO5.out)
    refine bodyPost_ret (v := .agg #[.int .u64 (y1:Int),.slice A1 k c1]) (res_c Tryz.results108 rfl (load_blk hB5.out Tryz.underlying27 rfl Tryz.sizeMa)) rfl ?_
    rw [HR.out,HE.out,bnd_mk]
    refine⟨A1,c1,?_,?_,W5.out.st,W5.out.stp⟩
    · simp only;rw [hlen.out]
    · simp only;rw [hlen.out];exact L5.out.mono (by have:=HBW.out;omega)
end
section
open Go.RowKit OctMath
structure PF (g:Nat) (A:Option Addr) (n cap:Nat) (bs:List Nat) (s:Int×Bool) (w:World):Prop where
 blk:Blk w g 133 #[.slice A n cap,.int .i64 s.1,.bool false,.bool s.2]
 rd:Reads w w.heap.size 1 A n (bs.map bv)
 ne:0<n→∀ad,A=some ad→Not g ad.block
theorem PF.turn {g:Nat} {A:Option Addr} {n cap:Nat} {s s':Int×Bool} {bs:List Nat} {w w':World} (h:PF g A n cap bs s w) (k:Keep (Not g) w w') (hB:Blk w' g 133 #[.slice A n cap,.int .i64 s'.1,.bool false,.bool s'.2]):PF g A n cap bs s' w' :=
 ⟨hB,k.reads h.rd h.ne,h.ne⟩
theorem PF.drew {g:Nat} {A:Option Addr} {n cap:Nat} {bs:List Nat} {s:Int×Bool} {w:World} (h:PF g A n cap bs s w):PF g A n cap bs s w.drew:=⟨h.blk,h.rd,h.ne⟩
theorem PF.put {g:Nat} {A:Option Addr} {n cap:Nat} {q:Int} {bs:List Nat} {s:Int×Bool} {w:World} (h:PF g A n cap bs s w):PF g A n cap bs (q,s.2) (w.setCell ⟨g,1,none⟩ (.int .i64 q))∧Keep (Not g) w (w.setCell ⟨g,1,none⟩ (.int .i64 q)):=by
 have k:=Keep.set_ (Not g) w (g:=g) 1 (.int .i64 q) (fun h=>h rfl)
 exact⟨h.turn k (by have:=h.blk.set_ 1 (.int .i64 q);simpa using this),k⟩
end
section
open Go.RowKit OctMath
theorem PF.below {g:Nat} {A:Option Addr} {n cap:Nat} {bs:List Nat} {s:Int×Bool} {w w':World} (h:PF g A n cap bs s w) (k:Below w.heap.size w w'):PF g A n cap bs s w' :=
 h.turn (Keep.below k) ((Keep.below (H:=fun _=>True) k).blk h.blk trivial)
theorem PF.apart {g:Nat} {A:Option Addr} {n cap:Nat} {bs:List Nat} {s:Int×Bool} {w:World} (h:PF g A n cap bs s w) {B m:Nat} {A1:Option Addr} {xs:List Nat} (hr:Reads w B 1 A1 m (xs.map bv)):0<m→∀ad,A1=some ad→Not g ad.block:=by
 intro hm ad ha hg
 obtain⟨ad',u,e1,hB,h2,h3⟩:=hr.at_ hm
 rw [ha] at e1
 injection e1 with e1
 rw [← e1] at h3
 rw [show ad.add 0=ad from rfl] at h3
 rw [List.getElem?_map] at h2
 obtain⟨x,-,rfl⟩:=Option.map_eq_some_iff.1 h2
 have hb:w.heap[ad.block]?=some (.cells #[.slice A n cap,.int .i64 s.1,.bool false,.bool s.2] 133):=by rw [hg];exact h.blk
 unfold World.cell? at h3
 rw [hb] at h3
 simp only at h3
 split at h3
 · cases h3
 · match ho:ad.off,h3 with
   | 0,h3=>simp [bv] at h3
   | 1,h3=>simp [bv] at h3
   | 2,h3=>simp [bv] at h3
   | 3,h3=>simp [bv] at h3
   | k+4,h3=>simp at h3
end
end Go.Proofs.YtdoneomahlfkbaaGreat
