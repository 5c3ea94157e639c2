/- Lemmas for the last texts. -/
import Derived.Test.YtnnokglddolglaaGreatDoorM41
set_option maxHeartbeats 6400000
set_option maxRecDepth 100000
namespace Go.Proofs.YtnnokglddolglaaGreatDoor
open Go.RowKit Go.Proofs.Tryz
def mG:ByteArray:=ByteArray.mk #[71,69,84]
def eT:ByteArray:=ByteArray.mk #[47,101,118,105,108]
def zqS:ByteArray:=ByteArray.mk #[71,69,84,32,47,101,118,105,108,32,72,84,84,80,47,49,46,49,13,10,13,10]
def zgb:ReqV:=⟨⟨mG,eT,[]⟩,[]⟩
theorem zx4:ofP eT [] emB 40=(0,[],[]):=by decide+kernel
theorem zvc:isR zhQ mG eT emB [] 0 0 [] []=true:=by
 have h:tstO 4 zeC=tstT 4 zeC:=by funext v;unfold tstO;rfl
 unfold isR;show (allP _ _ _).any (hitX [] false (tstO 4 zeC))=true
 rw[h]
 decide+kernel
theorem zvG(hit:Int->zat->Bool)(h1:hit 0 zhQ=true):(runS hit zaE).st=404:=by
 have k:zd8 hit run0 [zhQ]=doS run0 [zhQ]:=by
  unfold zd8;rw[Qe (by decide),Qe (by decide),Qg (by show ([zhQ].all (hit 0))=true;simp[h1])]
 obtain⟨S,b⟩:∃S,doS run0 [zhQ]=S:=⟨_,rfl⟩
 have a:S.dn=true/\S.st=404:=by rw[<-b];exact⟨rfl,rfl⟩
 have e:phS hit 1 (run0,[]) zhQ=(S,[]):=by
  unfold phS;rw[Qe (by decide),Qe (by decide)];show (zd8 hit run0 [zhQ],([]:List zat))=_
  rw[k,b]
 have i:phS hit 1 (S,[]) zrv=(S,[]):=by
  unfold phS;rw[Qg (by decide)]
 have c:∀T:RunS,phS hit 2 (T,[]) zhQ=(T,[]):=λT=>by
  unfold phS;rw[Qg (by decide)]
 have d:∀T:RunS,T.dn=true->phS hit 2 (T,[]) zrv=(T,[]):=λT g=>by
  unfold phS;rw[Qe (by decide),Qe (by decide)];show (zd8 hit T [zrv],([]:List zat))=_
  unfold zd8;rw[Qg g]
 have f:zaY hit 1 zaE.list run0=S:=by
  show ((phS hit 1 (phS hit 1 (run0,[]) zhQ) zrv)).1=S
  rw[e,i]
 have j:zaY hit 2 zaE.list S={S with sk:=0}:=by
  show ((phS hit 2 (phS hit 2 ({S with sk:=0},[]) zhQ) zrv)).1=_
  rw[c,d {S with sk:=0} a.1]
 unfold runS;rw[f,j];unfold endS;rw[Qe (by intro h;have:=h.1;rw[show ({S with sk:=0}:RunS).dn=S.dn from rfl,a.1]at this;cases this)];exact a.2
theorem zpp:outJ zaE 0 40 zgb=reqO zgb (runG zaE mG eT emB [] 0 40).2/\(runG zaE mG eT emB [] 0 40).2.st=404:=by
 have h:runG zaE mG eT emB [] 0 40=(0,runS (λd x=>isR x mG eT emB [] 0 d [] []) zaE):=by
  unfold runG;rw[zx4,Qe (by rw[zgA];decide),Qe (by decide)]
 have hb:bs zgb.b=emB:=rfl;have c:fwdE zgb.h zgb.b=0:=by kernel_rfl
 refine⟨?_,by rw[h];exact zvG _ zvc⟩
 have h1:(runG zaE zgb.h.m zgb.h.t (bs zgb.b) zgb.h.fs 0 40).1=0:=by
  show (runG zaE mG eT emB [] 0 40).1=0
  rw[h]
 unfold outJ;rw[Qe (by intro a;rcases a with a|a;exact a h1;exact a c)]
 rfl
theorem zvp:oneR zqS.data.toList 4096 4096=.ok (zgb,22):=by kernel_rfl
theorem zve:allS (outJ zaE 0 40) 4096 4096 zqS.data.toList=[outJ zaE 0 40 zgb]:=by
 rw[znG (by decide) (by decide) zvp];have e:zqS.data.toList.drop 22=[]:=rfl;rw[e,zpm,ite_self]
theorem zbG{A B:Option Addr}{n m c d:Nat}(h:Value.slice A n c=.slice B m d):A=B/\c=d:=by
 injection h with a _ b
 exact⟨a,b⟩
theorem zrS{v u:Value}{w z:World}(h:(Result.ok v w:Result Value)=.ok u z):v=u/\w=z:=by
 injection h with a b
 exact⟨a,b⟩
section
variable {ops:Array Oper} {rest:List Oper} {o:Oper} {a:Act} {Q:Exit->Act->World->Prop} {w:World}
theorem zgY(L:o.guard=none)(s x:Operand)(ho:o.op=.call {callee:=.builtin .append,args:=#[s,x],argTypes:=#[63,63]})
 (base:Nat) (A:Option Addr) (c1:Nat) (l:List OutM) (hs:a.eval s=.slice A l.length c1) (i:OwnG rowO w base (.slice A l.length c1) l) (r:base<=w.heap.size) (_:0<l.length)
 (c:List OutM) (H:Addr) (c2:Nat) (hx:a.eval x=.slice (some H) c.length c2) (f:∀j u,(c.flatMap zaN)[j]? = some u->w.cell? (H.add j)=some u) (h4:l.length+c.length<=1048576)
 (h:∀v' w',OwnG rowO w' base v' (l++c)->Below base w w'->(∀g,g<w.heap.size->(Value.slice A l.length c1).ownBlock≠some g->w'.heap[g]? = w.heap[g]?)->
  (∀b,A=some ⟨b,0,none⟩->∀j u,(l.flatMap zaN)[j]? = some u->w'.cell? ⟨b,j,none⟩=some u)->w.heap.size<=w'.heap.size->wpList prog ops Q rest (a.put o.dst v') w'):
 wpList prog ops Q (o::rest) a w:=by
 obtain⟨F,Z,G,d,B⟩:=ZG rowO.info;have d:F.size=9:=d;have B:F.bytes=128:=B;refine Xe L λK hK=>?_
 have v:∀m:List OutM,(m.flatMap zaN).length=m.length*9:=za0 zaN 9 (λ_=>rfl)
 have C:∀u∈c.flatMap zaN,u.oneCell'=true:=λu J=>by
  obtain⟨y,_,hy⟩:=List.mem_flatMap.1 J;exact rowO.one y u hy
 obtain⟨v',w',V,h2,X,_⟩:=run_append_own (P:=prog) w base 63 o.type 62 F _ 9 128 rowO.under Z G d B rowO.hz (by decide) (.slice A l.length c1) l.length (l.flatMap zaN) i
  H c.length c2 (c.flatMap zaN) (v c) f C (by unfold maxLen;omega) (by omega) r
 have h0:OwnG rowO w' base v' (l++c):=by
  unfold OwnG;rw[Qa,Q6];exact h2
 have E:∀g,g<w.heap.size->(Value.slice A l.length c1).ownBlock≠some g->w'.heap[g]? = w.heap[g]? := λg S O=>X.block g S (λe=>O e.symm)
 have z:∀b,A=some ⟨b,0,none⟩->∀j u,(l.flatMap zaN)[j]? = some u->w'.cell? ⟨b,j,none⟩=some u:=λb hb j u J=>by
  subst hb
  rcases i.2 with ⟨e,_⟩|⟨g,cap,D,e,h8,S,h9,h7,Y,W⟩
  ·have:=(zbG e).1
   cases this
  ·obtain⟨e1,e3⟩:=zbG e
   have e1:b=g:=by injection QD e1
   subst e1
   by_cases q:l.length+c.length<=c1
   ·have T:v'.ownBlock=some b:=by
     have I:l.length*F.size+(c.flatMap zaN).length<=D.size:=by
      rw[d,v,<-Nat.add_mul];have:D.size=c1*9:=by rw[Y,<-e3];rfl
      rw[this];exact Xs _ q
     have n:=run_append_room (P:=prog) w 63 o.type 62 F rowO.under Z b l.length c1 D S H c.length c2 (c.flatMap zaN) (by rw[d];exact v c) f C q I;rw[V]at n;rw[(zrS n).1]
     rfl
    have:=Zq (g:=b) h2 T j u (by rw[Zj (Qw.1 J).1];exact J);rw[zba]at this;exact this
   ·have t:∀j u,(l.flatMap zaN)[j]? = some u->w.cell? ((⟨b,0,none⟩:Addr).add j)=some u:=Zq (g:=b) i (by rfl)
    have n:=run_append_grow (P:=prog) w 63 o.type 62 F _ rowO.under Z G ⟨b,0,none⟩ l.length c1 (l.flatMap zaN) (by rw[d];exact v l) t H c.length c2 (c.flatMap zaN) (by rw[d];exact v c) f (by omega) (by omega) (growslice_fits (by omega) (by rw[B];omega));rw[V]at n;have h6:=(zrS n).2;have U:=t j u J;rw[zba]at U;have N:b<w.heap.size:=QQ w ⟨b,j,none⟩ U;rw[h6];exact(((Qj w.heap.size w).drew.alloc (Qc _) _).cell (p:=⟨b,j,none⟩) N).trans U
 unfold Oper.wp execOp;simp only[ho,resolve,invoke,builtin,Xf,Sem.run_pure,Zx,List.map_toArray,QW,Zu,hs,hx,V];exact hK _ _ (h v' w' h0 ((Qj _ _).grown X r (λk T=>(i.lt k T).1)) E z X.size)
end
theorem zyh{d:List OutM}(h:∀x∈d,zjh x.p=true->fwdE x.p.q.h x.p.q.b=0):∀x∈d,UpOk x:=λx f e=>by
 have c:=zwy (h x f e);have a:=zdF c.check;have h1:=a.short;have h2:=a.line;have g:=c.len;exact⟨by unfold maxLen;omega,by unfold maxLen;omega,by unfold maxLen;omega,zj6 a⟩
section
open Go.Deep
def zf8(J:Int)(F:ReqV->OutP)(f b:World)(s:jE)(v e:Value)(a:World):Prop:=
 f a/\b a/\((J≠0/\v=jD 0 0/\e=jA J)\/(J=0/\∃(d:List OutM) (A:Option Addr) (c:Nat),v=.slice A d.length c/\e=jA 0/\OwnG rowO a b.heap.size (.slice A d.length c) d/\(∀x∈d,OutOwn a b.heap.size x)/\d.map OutM.p=allS F 4096 4096 s))
theorem zm3{J:Int}{F:ReqV->OutP}{b a W w':World}{s:jE}{v e:Value}(hb:a W)(H:b a)(h:zf8 J F W W s v e w'):zf8 J F b a s v e w':=by
 obtain⟨_,h2,k⟩:=h;have f:=hb.trans (h2.mono hb.size);refine⟨H.trans (f.mono H.size),f,k.imp_right λ⟨n,d,A,c,m,i,j,g,o⟩=>⟨n,d,A,c,m,i,j.low hb.size,λx l=>(g x l).low hb.size,o⟩⟩
def zpq(w:World)(e:Ending)(w':World):Prop:=
 ∃(b off c:Nat),e=jC (.tuple #[.slice (some ⟨b,off,none⟩) 1 c,jA 0])/\w'.cell? ⟨b,off+4,none⟩=some (jA 404)/\w w'
theorem zv5(x:RuArg)(w:World)(k:x.set=zaE)(hl:RuLies w w.heap.size x)(q:zdb x)(f:LibOk w)(a:TabOk w):
 Calls prog 21 #[x.value,.agg #[jA 4096,jA 4096,jA 40],.int .u32 0,.string zqS] w (zpq w):=by
 have h:=zpd x 4096 4096 40 0 zqS w hl q (by decide) (by decide) f a;refine h.mono ?_;rintro e w' ⟨hb,h⟩
 have t:zbY x.set 4096 4096 40=0:=by
  unfold zbY;rw[k,Qe (by rw[zgA];decide)]
  rfl
 rcases h with ⟨h,_⟩|⟨_,h,_⟩|⟨_,_,d,A,c,rfl,m,_,j,_⟩
 ·exact absurd t h
 ·exact absurd h (by decide)
 ·rw[k]at j
  have g:d.map OutM.p=[outJ zaE 0 40 zgb]:=j.trans zve
  obtain⟨y,rfl⟩:∃y,d=[y]:=by
   have:=Zi List.length g;rw[Qh]at this;exact List.length_eq_one_iff.1 this
  have o:y.p=outJ zaE 0 40 zgb:=by
   have:=g;rw[QW,Zu]at this;injection this
  obtain⟨z,v,l,i⟩:=m.form;obtain⟨b,off,n,_,u⟩:=zoS i 0 (ZB 0);have s:A=some ⟨b,off,none⟩:=by injection l with r _ _;rw[r,n]
  subst s;refine⟨b,off,c,rfl,?_,hb⟩;have:=u 4 (by decide) _ rfl;rw[XP,XI]at this;rw[this];show some (jA y.p.st)=_
  rw[o,zpp.1];show some (jA (runG zaE mG eT emB [] 0 40).2.st)=_
  rw[zpp.2]
theorem zva(a:RuArg)(d:Nat)(q:ReqV)(e:q.h.fs.length<=1048576):(outJ a.set d 40 q).q.h.fs.length<=1048576/\(outJ a.set d 40 q).mt.length<=1048576:=by
 unfold outJ
 by_cases c:(runG a.set q.h.m q.h.t (bs q.b) q.h.fs d 40).1≠0\/fwdE q.h q.b≠0
 ·rw[Qg c];exact⟨Qm _,Qm _⟩
 ·rw[Qe c]
  have:=(zyw a q.h.m q.h.t (bs q.b) q.h.fs d 40 (by omega)).mt;exact⟨e,by show _<=1048576;exact Ql this (by decide)⟩
theorem zjp(a:RuArg)(cl:Nat)(p q:RqV)(w:World){v1 v2:Value}(h:RuLies w w.heap.size a)(hs:zdb a)(hc:cl<4294967296)(hp:zm0 w v1 p)(k0:p.fs.length<=1048576)(hq:zm0 w v2 q)(gT:q.fs.length<=1048576)(hh:LibOk w)(hd:TabOk w)(gc:TzOk w):
 Calls prog 6 #[a.value,.int .u32 (cl:Int),.agg #[.string p.m,.string p.t,.slice p.A p.fs.length p.c,.string p.b],.agg #[.string q.m,.string q.t,.slice q.A q.fs.length q.c,.string q.b]] w λe w'=>e=jC (.bool true)/\w w':=by
 obtain⟨i,O⟩:∃i,(((w.alloc (.cells #[jA a.most,jA a.status,.slice a.A a.l.length a.c] 24)).alloc (.cells #[.string p.m,.string p.t,.slice p.A p.fs.length p.c,.string p.b] 29)).alloc (.cells #[.string q.m,.string q.t,.slice q.A q.fs.length q.c,.string q.b] 29))=i:=⟨_,rfl⟩
 have k6:i.heap.size=w.heap.size+3:=by rw[<-O];simp
 have E:w i:=by rw[<-O];exact(WaL.alloc (by simp) _).alloc (by simp;omega) _
 have hR:R3' i w.heap.size a.most a.status (.slice a.A a.l.length a.c):=by
  rw[<-O];exact(Qr _ _ _ (by simp only[Qp];omega)).trans ((Qr _ _ _ (by simp only[Qp];omega)).trans (Qt w _))
 have hP:i.heap[w.heap.size+1]? = some (.cells #[.string p.m,.string p.t,.slice p.A p.fs.length p.c,.string p.b] 29 (0,0)):=by
  rw[<-O];exact(Qr _ _ _ (by simp only[Qp];omega)).trans (zbu _ _ _ (by simp only[Qp]))
 have hQ:i.heap[w.heap.size+1+1]? = some (.cells #[.string q.m,.string q.t,.slice q.A q.fs.length q.c,.string q.b] 29 (0,0)):=by
  rw[<-O];exact zbu _ _ _ (by simp only[Qp])
 have C:Hid (∀W,i W->R3' W w.heap.size a.most a.status (.slice a.A a.l.length a.c)/\W.heap[w.heap.size+1]? = some (.cells #[.string p.m,.string p.t,.slice p.A p.fs.length p.c,.string p.b] 29 (0,0))/\W.heap[w.heap.size+1+1]? = some (.cells #[.string q.m,.string q.t,.slice q.A q.fs.length q.c,.string q.b] 29 (0,0))/\w W):=hIx λW hb=>
  ⟨(hb.block _ (by omega)).trans hR,(hb.block _ (by omega)).trans hP,(hb.block _ (by omega)).trans hQ,E.trans (hb.mono E.size)⟩
 have gZ:Hid (∀(x:RuArg) W,x.set=zaE->RuLies W W.heap.size x->zdb x->i W->Calls prog 21 #[x.value,.agg #[jA 4096,jA 4096,jA 40],.int .u32 0,.string zqS] W (zpq W)):=hIx λx W h1 h2 h3 hb=>by
  have n:=E.trans (hb.mono E.size);exact zv5 x W h1 h2 h3 (hh.below n) (hd.below n)
 have gp:Hid (∀W,i W->Calls prog 24 #[.agg #[.string p.m,.string p.t,.slice p.A p.fs.length p.c,.string p.b],jD 0 0] W (zcW ⟨p.m,p.t,p.fs⟩ p.b.data.toList [] W)):=hIx λW hb=>by
  have n:=E.trans (hb.mono E.size);exact zmQ p.m p.t p.b p.fs p.A p.c [] none 0 W ((hp.sl.below n).more n.size) (Sl.nil _ _ _ _) hp.msize hp.tsize hp.sizes (by omega) (by decide) (gc.below n)
 have gF:Hid (∀W,i W->Calls prog 24 #[.agg #[.string q.m,.string q.t,.slice q.A q.fs.length q.c,.string q.b],.slice (some ⟨W.heap.size,0,none⟩) 1 1] (W.alloc (.cells #[jA 3] 3)) λe w'=>zcW ⟨q.m,q.t,q.fs⟩ q.b.data.toList [3] (W.alloc (.cells #[jA 3] 3)) e w'/\i w'):=hIx λW hb=>by
  have n:=E.trans (hb.mono E.size);have gu:W (W.alloc (.cells #[jA 3] 3)):=WaL;have hL:=n.trans (gu.mono n.size);have ga:=Qt W (.cells #[jA 3] 3);refine(zmQ q.m q.t q.b q.fs q.A q.c [3] (some ⟨W.heap.size,0,none⟩) 1 (W.alloc (.cells #[jA 3] 3)) ((hq.sl.below hL).more hL.size) (zdM ga (zaz ga) rfl) hq.msize hq.tsize hq.sizes (by omega) (by decide) (gc.below hL)).mono ?_;rintro e w' o;have r:=hb.trans (gu.mono hb.size);exact⟨o,r.trans (o.2.mono r.size)⟩
 have HG:Hid (∀(s:ByteArray) W,s.size<=65536->i W->Calls prog 21 #[.agg #[jA a.most,jA a.status,.slice a.A a.l.length a.c],.agg #[jA 4096,jA 4096,jA 40],.int .u32 (cl:Int),.string s] W λe w'=>∃v x,e=jC (.tuple #[v,x])/\zf8 (zbY a.set 4096 4096 40) (outJ a.set cl 40) W W s.data.toList v x w'):=hIx λs W hz hb=>by
  have n:=E.trans (hb.mono E.size);refine(zpd a 4096 4096 40 cl s W (h.keep n n.size) hs hc (by omega) (hh.below n) (hd.below n)).mono ?_;rintro e w' ⟨r,o⟩
  rcases o with ⟨h1,rfl⟩|⟨_,h1,_⟩|⟨h1,_,d,A,c,rfl,hO,gU,kc,_⟩
  ·exact⟨_,_,rfl,r,r,.inl ⟨h1,rfl,rfl⟩⟩
  ·omega
  ·exact⟨_,_,rfl,r,r,.inr ⟨h1,d,A,c,rfl,rfl,hO,gU,kc⟩⟩
 have hI:Hid (∀q:ReqV,q.h.fs.length<=1048576->(outJ a.set cl 40 q).q.h.fs.length<=1048576/\(outJ a.set cl 40 q).mt.length<=1048576):=hIx (zva a cl)
 have gd:Hid (∀q:ReqV,zjh (outJ a.set cl 40 q)=true->fwdE (outJ a.set cl 40 q).q.h (outJ a.set cl 40 q).q.b=0):=hIx λq hq=>by
  have hz:(outJ a.set cl 40 q).err=0:=by
   unfold zjh at hq;rw[QU,Zo]at hq;exact hq.1
  obtain⟨h1,h2⟩:=zyp a.set cl 40 q hz;rw[h1];exact h2
 have hm:Hid (∀(l:List OutM) (A:Option Addr) (c:Nat) W,i W->Sl W W.heap.size 9 A l.length (l.flatMap zaN)->(∀x∈l,OutIn W W.heap.size x)->(∀x∈l,UpOk x)->l.length<=1048576->
  Calls prog 19 #[.slice A l.length c] W λe w'=>e=jC (.string (bs (upJ (l.map OutM.p))))/\W w'):=hIx λl A c W hb h1 h2 h3 h4=>by
  have n:=E.trans (hb.mono E.size);exact zzk l A c W h1 h2 h3 h4 (hh.below n) (hd.below n)
 have ke:=hIx O;have gH:=hIx k0;have k4:=hIx gT;unfold RuArg.value;generalize outJ a.set cl 40=F at *;generalize zbY a.set 4096 4096 40=J at *;clear O hR hP hQ h hs hc k6 E hh hd gc hp hq k0 gT
 go_in
 go_upto_region 1 with fail
 rw[ke.out]
 go_cut [9,10]from 21 to 26 (λv e wx=>∃b off c,v=.slice (some ⟨b,off,none⟩) 1 c/\e=jA 0/\wx.cell? ⟨b,off+4,none⟩=some (jA 404)/\i wx)
 case first=>
  go_wp2_with (first
   |(go_at_call 8;(with_reducible refine(zp9 _).mono ?_);rintro e w1 ⟨x,rfl,hu,gr,ho,gj⟩)
   |(go_at_call 23;refine(zg1 _).mono ?_;rintro e w2 ⟨rfl,r⟩;have hi:=gj.trans (r.mono gj.size);have HE:=hIx (gZ.out x w2 hu (gr.keep r r.size) ho hi))
   |(go_at_call 21;apply Hid.out))
  refine WhM HE ?_;rintro e w3 ⟨b,off,c,rfl,hD,hF⟩;have H:=hIx (hi.trans (hF.mono hi.size));clear HE hu gr ho gj r hF hi;go_wp2;go_meet;exact⟨b,off,c,rfl,rfl,hD,H.out⟩
 case rest=>
  obtain⟨b,off,c,rfl,rfl,hD,hcut⟩:=hcut;have ⟨_,hG,_,_⟩:=C.out wc hcut;have p0:wc.cell? (w.heap.size+1:)=some (.string p.m):=Qf _ _ 0 _ _ _ hG;have p1:wc.cell? ⟨w.heap.size+1,1,none⟩=some (.string p.t):=Qf _ _ 1 _ _ _ hG;have p2:wc.cell? ⟨w.heap.size+1,2,none⟩=some (.slice p.A p.fs.length p.c):=Qf _ _ 2 _ _ _ hG;have p3:wc.cell? ⟨w.heap.size+1,3,none⟩=some (.string p.b):=Qf _ _ 3 _ _ _ hG;have HA:=hIx (gp.out wc hcut);have HC:=hIx hcut;have gP:=hcut.size;clear hG hcut gZ gp;go_wp2_with (go_at_call 24;apply Hid.out);refine WhM HA ?_;rintro e w2 ⟨h2,r⟩;have gC:=hIx (HC.out.trans (r.mono gP));have ⟨_,_,hv,_⟩:=C.out w2 gC.out;have q0:w2.cell? (w.heap.size+1+1:)=some (.string q.m):=Qf _ _ 0 _ _ _ hv;have q1:w2.cell? ⟨w.heap.size+1+1,1,none⟩=some (.string q.t):=Qf _ _ 1 _ _ _ hv;have q2:w2.cell? ⟨w.heap.size+1+1,2,none⟩=some (.slice q.A q.fs.length q.c):=Qf _ _ 2 _ _ _ hv;have q3:w2.cell? ⟨w.heap.size+1+1,3,none⟩=some (.string q.b):=Qf _ _ 3 _ _ _ hv;have gI:=hIx (gF.out w2 gC.out);have kg:w.heap.size+1+1<w2.heap.size:=zaz hv;clear p0 p1 p2 p3 HA r hv gF
  obtain⟨x,ok,rfl,gs⟩:∃(x:ByteArray) (ok:Bool),e=jC (.tuple #[.string x,.bool ok])/\(ok=true->∃t,zcc ⟨p.m,p.t,p.fs⟩ p.b.data.toList/\zdV ⟨p.m,p.t,p.fs⟩ p.b.data.toList []=some t/\x=bs (zas ⟨p.m,p.t,p.fs⟩++t)):=by
   rcases h2 with ⟨x,rfl⟩|⟨t,k1,Q,_,rfl⟩
   ·exact⟨x,false,rfl,λh=>(by cases h)⟩
   ·exact⟨_,true,rfl,λ_=>⟨t,k1,Q,rfl⟩⟩
  have gJ:=hIx gs;clear h2 gs;go_wp2_with (go_at_call 24;apply Hid.out);refine WhM gI ?_;rintro e w3 ⟨⟨h3,_⟩,hF⟩;have H:=hIx hF;clear q0 q1 q2 q3 gI hF
  obtain⟨y,is,rfl,gw⟩:∃(y:ByteArray) (is:Bool),e=jC (.tuple #[.string y,.bool is])/\(is=true->∃t,zcc ⟨q.m,q.t,q.fs⟩ q.b.data.toList/\zdV ⟨q.m,q.t,q.fs⟩ q.b.data.toList [3]=some t/\y=bs (zas ⟨q.m,q.t,q.fs⟩++t)):=by
   rcases h3 with ⟨y,rfl⟩|⟨t,k1,Q,_,rfl⟩
   ·exact⟨y,false,rfl,λh=>(by cases h)⟩
   ·exact⟨_,true,rfl,λ_=>⟨t,k1,Q,rfl⟩⟩
  have gt:=hIx gw;clear h3 gw;have h8:Hid (∀W,i W->w W):=hIx λW hb=>(C.out W hb).2.2.2
  by_cases hE:ok=true/\is=true
  rotate_left
  ·cases ok
   ·go_wp2
    go_ret;exact⟨rfl,h8.out _ H.out⟩
   ·cases is
    ·go_wp2
     go_ret;exact⟨rfl,h8.out _ H.out⟩
    ·exact absurd ⟨rfl,rfl⟩ hE
  ·obtain⟨rfl,rfl⟩:=hE
   obtain⟨t1,k1,e1,rfl⟩:=gJ.out rfl;obtain⟨t2,Q,e2,rfl⟩:=gt.out rfl;have P:=zmW k1 e1 (by decide);have hy1:=zmW Q e2 (by decide);have gD:Hid (allS F 4096 4096 (bs (zas ⟨p.m,p.t,p.fs⟩++t1)).data.toList=[F ⟨⟨p.m,p.t,p.fs⟩,p.b.data.toList⟩]):=hIx (by rw[zah];exact zf7 k1 e1);have gL:Hid (allS F 4096 4096 (bs (zas ⟨q.m,q.t,q.fs⟩++t2)).data.toList=[F ⟨⟨q.m,q.t,q.fs⟩,q.b.data.toList⟩]):=hIx (by rw[zah];exact zf7 Q e2);have gS:Hid (allS F 4096 4096 (bs (zas ⟨p.m,p.t,p.fs⟩++t1)++bs (zas ⟨q.m,q.t,q.fs⟩++t2)).data.toList=F ⟨⟨p.m,p.t,p.fs⟩,p.b.data.toList⟩::if (F ⟨⟨p.m,p.t,p.fs⟩,p.b.data.toList⟩).err=0 then [F ⟨⟨q.m,q.t,q.fs⟩,q.b.data.toList⟩]else []):=hIx (by rw[ziz,zah];exact zuw k1 e1 Q e2);have hX:(bs (zas ⟨p.m,p.t,p.fs⟩++t1)).size<=8300:=by rw[zae];exact P
   have hY:(bs (zas ⟨q.m,q.t,q.fs⟩++t2)).size<=8300:=by rw[zae];exact hy1
   generalize bs (zas ⟨p.m,p.t,p.fs⟩++t1)=X at *;generalize bs (zas ⟨q.m,q.t,q.fs⟩++t2)=Y at *;have g3:Hid (X.size<=65536/\Y.size<=65536/\(X++Y).size<=65536):=hIx ⟨by omega,by omega,by rw[Q5];omega⟩;have kh:X.size+Y.size<=9223372036854775807:=by omega
   clear k1 e1 Q e2 P hy1 gJ gt;have ⟨D,_⟩:=C.out w3 H.out;have r0:w3.cell? w.heap.size=some (jA a.most):=Qf _ _ 0 _ _ _ D;have r1:w3.cell? ⟨w.heap.size,1,none⟩=some (jA a.status):=Qf _ _ 1 _ _ _ D;have r2:w3.cell? ⟨w.heap.size,2,none⟩=some (.slice a.A a.l.length a.c):=Qf _ _ 2 _ _ _ D;clear D;go_upto_region 8 with fail
   go_cut [15,16]from 59 to 66 (λv e wx=>zf8 J F i w3 X.data.toList v e wx)
   case first=>
    go_region_with (first
     |(go_at_call 23;(with_reducible refine(zg1 _).mono ?_);rintro e S ⟨rfl,K⟩;have f:w3 S:=(by first|exact K|exact undrew K);have B:=(C.out S (H.out.trans (f.mono H.out.size))).1;have s0:S.cell? w.heap.size=some (jA a.most):=Qf _ _ 0 _ _ _ B;have s1:S.cell? ⟨w.heap.size,1,none⟩=some (jA a.status):=Qf _ _ 1 _ _ _ B;have s2:S.cell? ⟨w.heap.size,2,none⟩=some (.slice a.A a.l.length a.c):=Qf _ _ 2 _ _ _ B;clear B)
     |(go_at_call 21;(with_reducible refine(HG.out X _ g3.out.1 ?_).mono ?_);(first|exact H.out.trans (f.mono H.out.size)|exact(H.out.trans (f.mono H.out.size)).drew);rintro e gR ⟨v,z,rfl,g1⟩;have h0:=hIx (zm3 (by first|exact f|exact f.drew) H.out g1);clear g1))
    all_goals (go_wp2;go_meet;exact h0.out)
   case rest=>
    obtain⟨h6,rfl⟩:∃x:World,x=wc:=⟨_,rfl⟩
    have hU:=hIx hcut;have h7:=hIx hcut.1;clear r0 r1 r2 hcut;have ⟨D,_⟩:=C.out h6 h7.out;have r0:h6.cell? w.heap.size=some (jA a.most):=Qf _ _ 0 _ _ _ D;have r1:h6.cell? ⟨w.heap.size,1,none⟩=some (jA a.status):=Qf _ _ 1 _ _ _ D;have r2:h6.cell? ⟨w.heap.size,2,none⟩=some (.slice a.A a.l.length a.c):=Qf _ _ 2 _ _ _ D;clear D;go_upto_region 9 with fail
    go_cut [17,18]from 67 to 74 (λv e wx=>zf8 J F i h6 Y.data.toList v e wx)
    case first=>
     go_region_with (first
      |(go_at_call 23;(with_reducible refine(zg1 _).mono ?_);rintro e S ⟨rfl,K⟩;have f:h6 S:=(by first|exact K|exact undrew K);have B:=(C.out S (h7.out.trans (f.mono h7.out.size))).1;have s0:S.cell? w.heap.size=some (jA a.most):=Qf _ _ 0 _ _ _ B;have s1:S.cell? ⟨w.heap.size,1,none⟩=some (jA a.status):=Qf _ _ 1 _ _ _ B;have s2:S.cell? ⟨w.heap.size,2,none⟩=some (.slice a.A a.l.length a.c):=Qf _ _ 2 _ _ _ B;clear B)
      |(go_at_call 21;(with_reducible refine(HG.out Y _ g3.out.2.1 ?_).mono ?_);(first|exact h7.out.trans (f.mono h7.out.size)|exact(h7.out.trans (f.mono h7.out.size)).drew);rintro e gR ⟨v,z,rfl,g1⟩;have h0:=hIx (zm3 (by first|exact f|exact f.drew) h7.out g1);clear g1))
     all_goals (go_wp2;go_meet;exact h0.out)
    case rest=>
     obtain⟨ha,rfl⟩:∃x:World,x=wc:=⟨_,rfl⟩
     have hB:=hIx hcut;have Z:=hIx hcut.1;clear r0 r1 r2 hcut;have ⟨D,_⟩:=C.out ha Z.out;have r0:ha.cell? w.heap.size=some (jA a.most):=Qf _ _ 0 _ _ _ D;have r1:ha.cell? ⟨w.heap.size,1,none⟩=some (jA a.status):=Qf _ _ 1 _ _ _ D;have r2:ha.cell? ⟨w.heap.size,2,none⟩=some (.slice a.A a.l.length a.c):=Qf _ _ 2 _ _ _ D;clear D;go_upto_region 10 with fail
     go_cut [19,20]from 75 to 84 (λv e wx=>zf8 J F i ha (X++Y).data.toList v e wx)
     case first=>
      go_region_with (first
       |(go_at_call 23;(with_reducible refine(zg1 _).mono ?_);rintro e S ⟨rfl,K⟩;have f:ha S:=(by first|exact K|exact undrew K);have B:=(C.out S (Z.out.trans (f.mono Z.out.size))).1;have s0:S.cell? w.heap.size=some (jA a.most):=Qf _ _ 0 _ _ _ B;have s1:S.cell? ⟨w.heap.size,1,none⟩=some (jA a.status):=Qf _ _ 1 _ _ _ B;have s2:S.cell? ⟨w.heap.size,2,none⟩=some (.slice a.A a.l.length a.c):=Qf _ _ 2 _ _ _ B;clear B)
       |(go_at_call 21;(with_reducible refine(HG.out (X++Y) _ g3.out.2.2 ?_).mono ?_);(first|exact Z.out.trans (f.mono Z.out.size)|exact(Z.out.trans (f.mono Z.out.size)).drew);rintro e gR ⟨v,z,rfl,g1⟩;have h0:=hIx (zm3 (by first|exact f|exact f.drew) Z.out g1);clear g1))
      all_goals (go_wp2;go_meet;exact h0.out)
     case rest=>
      have hH:=hIx hcut;have hn:=hIx hcut.1;clear r0 r1 r2 hcut
      by_cases hj:J=0
      rotate_left
      ·have n0:(J != 0)=true:=Q7.2 hj
       have e0:(J==J)=true:=beq_self_eq_true _;obtain⟨_,rfl,rfl⟩:=hU.out.2.2.resolve_right λh=>hj h.1
       obtain⟨_,rfl,rfl⟩:=hB.out.2.2.resolve_right λh=>hj h.1
       obtain⟨_,rfl,rfl⟩:=hH.out.2.2.resolve_right λh=>hj h.1
       have k5:=hIx (h8.out _ hn.out);clear hj hU hB hH;go_wp2;go_ret;exact⟨rfl,k5.out⟩
      ·subst hj
       obtain⟨_,d1,A1,c1,rfl,rfl,G,ht,hK⟩:=hU.out.2.2.resolve_left λh=>h.1 rfl
       obtain⟨_,d2,A2,c2,rfl,rfl,T,hr,hC⟩:=hB.out.2.2.resolve_left λh=>h.1 rfl
       obtain⟨_,d3,A3,c3,rfl,rfl,h9,g0,N⟩:=hH.out.2.2.resolve_left λh=>h.1 rfl
       have hW:=hB.out.2.1;have hw:=hH.out.2.1;have g5:∀k,(Value.slice A1 d1.length c1).ownBlock=some k->k<h6.heap.size:=λk hk=>(G.lt k hk).2
       have hN:∀k Q,(Value.slice A1 d1.length c1).ownBlock=some k->(Value.slice A2 d2.length c2).ownBlock=some Q->k≠Q:=λk Q h1 h2=>Nat.ne_of_lt (Qv (g5 k h1) (T.lt Q h2).1)
       have hJ:∀k Q,(Value.slice A1 d1.length c1).ownBlock=some k->(Value.slice A3 d3.length c3).ownBlock=some Q->k≠Q:=λk Q h1 h2=>Nat.ne_of_lt (Qv (Qv (g5 k h1) hW.size) (h9.lt Q h2).1)
       have G:=(G.below hW).below hw;have ht:=λx o=>((ht x o).below hW).below hw
       have T:=T.below hw;have hr:=λx o=>(hr x o).below hw
       clear hU hB hH hW hw
       -- FIN
       have gv:=hIx (hI.out ⟨⟨p.m,p.t,p.fs⟩,p.b.data.toList⟩ gH.out);have k8:=hIx (hI.out ⟨⟨q.m,q.t,q.fs⟩,q.b.data.toList⟩ k4.out);have gx:=hIx (gd.out ⟨⟨p.m,p.t,p.fs⟩,p.b.data.toList⟩);have gN:=hIx (gd.out ⟨⟨q.m,q.t,q.fs⟩,q.b.data.toList⟩);have hK:=hK.trans gD.out;have hC:=hC.trans gL.out;have N:=N.trans gS.out;generalize F ⟨⟨p.m,p.t,p.fs⟩,p.b.data.toList⟩=FP at *;generalize F ⟨⟨q.m,q.t,q.fs⟩,q.b.data.toList⟩=FQ at *;clear gD gL gS hI gd HG g3 gH k4
       obtain⟨L,rfl⟩:∃y,d1=[y]:=by
        have:=Zi List.length hK;rw[Qh]at this;exact List.length_eq_one_iff.1 this
       obtain⟨U,rfl⟩:∃y,d2=[y]:=by
        have:=Zi List.length hC;rw[Qh]at this;exact List.length_eq_one_iff.1 this
       have P:L.p=FP:=by injection hK
       have hT:U.p=FQ:=by injection hC
       obtain⟨b1,kd,e1,_,_⟩:=G.head (ZB 0);obtain⟨b2,kj,e2,_,_⟩:=T.head (ZB 0);obtain rfl:=(zbG e1).1;obtain rfl:=(zbG e2).1;have r8:wc.cell? ⟨b1,8,none⟩=some (jA L.p.err):=(G.at 0 (ZB 0) 8 (by decide)).1;rw[P]at r8;clear e1 e2 hK hC;have g8:∀{l:List OutM} {b:Nat},(∀x∈l,OutOwn wc b x)->∀x∈l,OutIn wc wc.heap.size x:=λh x o=>(h x o).outIn
       have ge:=g8 ht;have gn:=g8 hr;have gi:=g8 g0;clear g8
       by_cases he:FP.err=0
       rotate_left
       ·have n0:(FP.err != 0)=true:=Q7.2 he
        rw[Qe he]at N;have gg:d3.length=1:=by have:=Zi List.length N;rw[Qh]at this;exact this
        obtain⟨kl,kf,e3,ho⟩:=h9.form;obtain⟨ki,kd,e1,hu⟩:=G.form;have e3:=(zbG e3).1;have e1:=(zbG e1).1;rw[<-e3]at ho;rw[<-e1]at hu;have hA:=hIx (zjM [L] d3 (some ⟨b1,0,none⟩) A3 c1 c3 wc hu ho ge gi (λx o=>by rw[Qy.1 o];unfold zlL;rw[P];exact gv.out) (by rw[QW,Zu,P,N]) (by simp));rw[gg]at hA;rw[gg];have hZ:=hIx (h8.out _ hn.out);have gP:=hn.out.size;clear he e1 e3 hu ho ge gn gi N G T h9 ht hr g0 hN hJ g5 gg;go_wp2_with (go_at_call 25;apply Hid.out);refine WhM hA ?_;rintro e V ⟨rfl,g7⟩;go_wp2;go_ret;exact⟨rfl,hZ.out.trans (g7.mono hZ.out.size)⟩
       ·have n0:(FP.err != 0)=false:=by rw[he];rfl
        rw[Qg he]at N
        obtain⟨x3,x4,rfl⟩:∃y z,d3=[y,z]:=by
         have:=Zi List.length N;rw[Qh]at this
         match d3,this with
         | [y,z],_=>exact⟨y,z,rfl⟩
        have h3:x3.p=FP:=by injection N
        have h4:x4.p=FQ:=by injection N with _ b;injection b
        obtain⟨b3,kf,e3,_,_⟩:=h9.head (by simp);obtain rfl:=(zbG e3).1;clear e3 N he;have hV:∀j u,([U].flatMap zaN)[j]? = some u->wc.cell? ((⟨b2,0,none⟩:Addr).add j)=some u:=Zq (g:=b2) T (by rfl);have hy:=G.lt b1 rfl;have gf:w3.heap.size<=wc.heap.size:=Ql hy.1 (QX hy.2)
        have gO:Hid (∀V:World,Below w3.heap.size wc V->(∀g,g<wc.heap.size->(Value.slice b1 [L].length c1).ownBlock≠some g->V.heap[g]? = wc.heap[g]?)->(∀b,some (⟨b1,0,none⟩:Addr)=some ⟨b,0,none⟩->∀j u,([L].flatMap zaN)[j]? = some u->V.cell? ⟨b,j,none⟩=some u)->wc.heap.size<=V.heap.size->∀W,V W->
         i W/\Sl W W.heap.size 9 (some ⟨b3,0,none⟩) [x3,x4].length ([x3,x4].flatMap zaN)/\Sl W W.heap.size 9 (some ⟨b1,0,none⟩) [L].length ([L].flatMap zaN)/\Sl W W.heap.size 9 (some ⟨b2,0,none⟩) [U].length ([U].flatMap zaN)/\(∀x∈[x3,x4],OutIn W W.heap.size x)/\(∀x∈[L],OutIn W W.heap.size x)/\∀x∈[U],OutIn W W.heap.size x):=hIx λV hb hk hf hz W I=>by
         have k3:=h9.keep (w':=V) λg hg=>hk g (h9.lt g hg).2 λh=>hJ _ _ h hg rfl
         have Q:=T.keep (w':=V) λg hg=>hk g (T.lt g hg).2 λh=>hN _ _ h hg rfl
         obtain⟨_,_,e3,s3⟩:=k3.form;obtain⟨_,_,e2,s2⟩:=Q.form;rw[<-(zbG e3).1]at s3;rw[<-(zbG e2).1]at s2;have s1:Sl V V.heap.size 9 (some ⟨b1,0,none⟩) [L].length ([L].flatMap zaN):=⟨za0 zaN 9 (λ_=>rfl) [L],λ_=>⟨b1,0,rfl,Qv hy.2 hz,λj hj=>by rw[Zh];exact hf b1 rfl j _ (Qd hj)⟩⟩
         have O:=hn.out.trans (hb.mono H.out.size);exact⟨O.trans (I.mono O.size),(s3.below I).more I.size,(s1.below I).more I.size,(s2.below I).more I.size,λx o=>((g0 x o).past G hk).outIn.keep I I.size,λx o=>((ht x o).past G hk).outIn.keep I I.size,λx o=>((hr x o).past G hk).outIn.keep I I.size⟩
        obtain⟨TA,g2⟩:∃TA,bs (upJ ([L].map OutM.p))=TA:=⟨_,rfl⟩
        obtain⟨TB,g6⟩:∃TB,bs (upJ ([U].map OutM.p))=TB:=⟨_,rfl⟩
        have gY:bs (upJ ([x3,x4].map OutM.p))=TA++TB:=by
         rw[<-g2,<-g6,ziz];show bs (upJ [x3.p,x4.p])=bs (upJ [L.p]++upJ [U.p])
         rw[h3,h4,P,hT,zxi]
        have gW:TA.size<=35250:=by rw[<-g2,zae];have:=znJ ([L].map OutM.p);rw[Qh,QC]at this;omega
        have gq:TB.size<=35250:=by rw[<-g6,zae];have:=znJ ([U].map OutM.p);rw[Qh,QC]at this;omega
        have gV:∀x∈[L],UpOk x:=zyh λx o hp=>by rw[Qy.1 o,P]at hp ⊢;exact gx.out hp
        have gm:∀x∈[U],UpOk x:=zyh λx o hp=>by rw[Qy.1 o,hT]at hp ⊢;exact gN.out hp
        have gK:∀x∈[x3,x4],UpOk x:=zyh λx o hp=>by
         rcases QI.1 o with rfl|o
         ·rw[h3]at hp ⊢;exact gx.out hp
         ·rw[Qy.1 o,h4]at hp ⊢;exact gN.out hp
        have k9:Hid (∀W,i W->Sl W W.heap.size 9 (some ⟨b1,0,none⟩) [L].length ([L].flatMap zaN)->(∀x∈[L],OutIn W W.heap.size x)->Calls prog 19 #[.slice b1 1 c1] W λe w'=>e=jC (.string TA)/\W w'):=hIx λW h1 h2 h5=>by rw[<-g2];exact hm.out [L] _ c1 W h1 h2 h5 gV (by simp)
        have k7:Hid (∀W,i W->Sl W W.heap.size 9 (some ⟨b2,0,none⟩) [U].length ([U].flatMap zaN)->(∀x∈[U],OutIn W W.heap.size x)->Calls prog 19 #[.slice b2 1 c2] W λe w'=>e=jC (.string TB)/\W w'):=hIx λW h1 h2 h5=>by rw[<-g6];exact hm.out [U] _ c2 W h1 h2 h5 gm (by simp)
        have gQ:Hid (∀W,i W->Sl W W.heap.size 9 (some ⟨b3,0,none⟩) [x3,x4].length ([x3,x4].flatMap zaN)->(∀x∈[x3,x4],OutIn W W.heap.size x)->Calls prog 19 #[.slice b3 2 c3] W λe w'=>e=jC (.string (TA++TB))/\W w'):=hIx λW h1 h2 h5=>by rw[<-gY];exact hm.out [x3,x4] _ c3 W h1 h2 h5 gK (by simp)
        have kb:TA.size+TB.size<=9223372036854775807:=by omega
        have gb:∀x∈[x3,x4],zlL x:=λx o=>by
         unfold zlL
         rcases QI.1 o with rfl|o
         ·rw[h3];exact gv.out
         ·rw[Qy.1 o,h4];exact k8.out
        have g9:[x3,x4].map OutM.p=([L]++[U]).map OutM.p:=by
         show [x3.p,x4.p]=[L.p,U.p]
         rw[h3,h4,P,hT]
        have kk:((TA++TB).toList==(TA++TB).toList)=true:=by simp
        clear g2 g6 gY gW gq gV gm gK hN hJ g5 ge gn gi ht hr g0 hm P hT h3 h4
        go_wp2_with (first
         |(at_builtin;refine zgY rfl (.tmp 131) (.tmp 132) rfl w3.heap.size (some ⟨b1,0,none⟩) c1 [L] rfl G gf (ZB 0) [U] ⟨b2,0,none⟩ c2 rfl hV (by simp) ?_;intro v' V gl g7 gM gA gz;obtain⟨A5,c5,rfl,gy⟩:=gl.form;have HW:=hIx (gO.out V g7 gM gA gz);have ka:=hIx gy)
         |(go_at_call 25;apply Hid.out))
        obtain⟨_,s3,s1,s2,i3,i1,i2⟩:=HW.out V (Qj _ _)
        have gX:∀x∈[L]++[U],OutIn V V.heap.size x:=λx o=>by
         rcases QO.1 o with h|h
         ·exact i1 x h
         ·exact i2 x h
        have hA:=hIx (zjM [x3,x4] ([L]++[U]) (some ⟨b3,0,none⟩) A5 c3 c5 V s3 ka.out i3 gX gb g9 (by simp));clear s3 s1 s2 i3 i1 i2 gX gb g9 gy gl g7 gM gA gz G T h9;refine WhM hA ?_;rintro e w6 ⟨rfl,gh⟩;obtain⟨gk,s3,_,_,i3,_,_⟩:=HW.out w6 gh;have HU:=hIx (gQ.out w6 gk s3 i3);clear s3 i3 gk hA;go_wp2_with (go_at_call 19;apply Hid.out);refine WhM HU ?_;rintro e w7 ⟨rfl,hS⟩;have hS:=gh.trans (hS.mono gh.size);obtain⟨gB,_,s1,_,_,i1,_⟩:=HW.out w7 hS;have gE:=hIx (k9.out w7 gB s1 i1);clear s1 i1 gB HU;go_wp2_with (go_at_call 19;apply Hid.out);refine WhM gE ?_;rintro e S ⟨rfl,K⟩;have K:=hS.trans (K.mono hS.size);obtain⟨g4,_,_,s2,_,_,i2⟩:=HW.out S K;have gG:=hIx (k7.out S g4 s2 i2);clear s2 i2 gE;go_wp2_with (go_at_call 19;apply Hid.out);refine WhM gG ?_;rintro e w9 ⟨rfl,f⟩;have hZ:=hIx (h8.out _ (g4.trans (f.mono g4.size)));clear g4 f gG;go_wp2;go_ret;exact⟨rfl,hZ.out⟩
end
theorem zlh(a:RuArg)(d:Int)(p q:RqV)(w:World){r u k:Value}(x:zoF w r a)(v:zdb a)(y:0<=d/\d<=4294967295)(s:zm0 w u p)(g:znS p)(o:zm0 w k q)(j:znS q)(f:LibOk w)
 (l:Lib.TabIs prog w "internal/strconv.uint64pow10" .u64 Lib.pow10Tab) (i:Lib.TabIs prog w "math/bits.deBruijn64tab" .u8 zvO):
 Calls prog 6 #[a.value,.int .u32 d,.agg #[.string p.m,.string p.t,.slice p.A p.fs.length p.c,.string p.b],.agg #[.string q.m,.string q.t,.slice q.A q.fs.length q.c,.string q.b]] w λe w'=>e=jC (.bool true)/\w w':=by
 have h:=zjp a d.toNat p q w x.lies v (by omega) s g.n o j.n f (TabOk.of l) (zsi i);rw[show ((d.toNat:Nat):Int)=d by omega]at h;exact h
