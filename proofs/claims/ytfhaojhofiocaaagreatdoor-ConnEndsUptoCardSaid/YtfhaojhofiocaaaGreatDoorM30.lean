/- Lemmas for the last texts. -/
import Derived.Test.YtfhaojhofiocaaaGreatDoorM29
set_option maxHeartbeats 3200000
set_option maxRecDepth 100000
namespace Go.Proofs.YtfhaojhofiocaaaGreatDoor
open Go.RowKit Go.Proofs.Tryz
section
variable {g L n:Nat} {k:ConK} {S:ConS} {w wr:World}
theorem zxo(h:EnIn w g L k S n wr)(d:w.heap.size<=g){gb:Nat}{o:Obj}(j:wr.heap[gb]? = some o)(b:gb≠g):
 Calls prog 9 #[.pointer g] wr λe f=>∃s,e=jC s/\Calls prog 10 #[.pointer g] f λe w2=>∃t,e=jC t/\
  Calls prog 11 #[.pointer g] w2 λe w3=>∃q,e=jC q/\w3.heap[gb]? = some o/\EnIn w g L k (zyn S) n w3:=by
 have a:∀{W:World},W.heap[gb]? = some o->gb<W.heap.size:=λh=>(QI.1 h).1
 refine(zy4 h d).mono ?_;rintro e f ⟨rfl,h1,m⟩;have l:=(m gb (a j) b).trans j;refine⟨_,rfl,(zsM h1 d).mono ?_⟩;rintro e w2 ⟨rfl,h2,v⟩;have i:=(v gb (a l) b).trans l;refine⟨_,rfl,(zwx h2 d).mono ?_⟩;rintro e w3 ⟨A,c,rfl,u,r⟩;exact⟨_,rfl,(r gb (a i) b).trans i,u⟩
theorem zxi(h:EnIn w g L k S n wr)(b:w.heap.size<=g)(o:zy1 S):
 Calls prog 8 #[.pointer g] wr λe a=>e=jC (jA 2)/\Calls prog 9 #[.pointer g] a λe a=>e=jC (.string (.mk #[]))/\
  Calls prog 10 #[.pointer g] a λe w2=>e=jC (.string (.mk #[]))/\
   Calls prog 11 #[.pointer g] w2 λe w3=>∃A c,e=jC (.slice A 0 c)/\∃l,EnIn w g L k l n w3:=by
 obtain⟨i,f,m,d⟩:=o;refine(zos h).mono ?_;rintro e q ⟨rfl,rfl⟩;rw[i];refine⟨rfl,(zy4 h b).mono ?_⟩;rintro e a ⟨rfl,h1,_⟩;rw[f];refine⟨rfl,(zsM h1 b).mono ?_⟩;rintro e w2 ⟨rfl,h2,_⟩;refine⟨by rw[m];rfl,(zwx h2 b).mono ?_⟩;rintro e w3 ⟨A,c,rfl,j,_⟩;exact⟨A,c,by rw[d];rfl,_,j⟩
end
def zzy(w:World)(g L:Nat)(k:ConK)(len:Nat)(i:Value)(wr:World):Prop:=∃j S n,j<=len/\i=jA (j:Int)/\EnIn w g L k S n wr/\n<=j*65540
def zyB(w:World)(e:Ending)(w':World):Prop:=e=jC (.bool true)/\w w'
theorem zuC(x:RuArg)(w W:World)(t:x.set=zcs)(hl:RuLies W W.heap.size x)(s:zb9 x)(hb:w W)(d:LibOk w)(c:TabOk w):
 Calls prog 4 #[x.value,.agg #[jA 4096,jA 4096,jA 40],jA 1,.int .u32 0,jA 9] W λe n=>∃g,e=jC (.tuple #[.pointer (some ⟨g,0,none⟩),jA 0])/\Calls prog 7 #[.pointer (some ⟨g,0,none⟩)] n λe w2=>e=jC (jA 0)/\
  Calls prog 7 #[.pointer (some ⟨g,0,none⟩)] w2 λe w3=>e=jC (jA 8)/\w w3:=by
 have h:=zsV x 4096 4096 40 1 0 9 W hl s (by decide) (by decide) (by decide) (by decide) (by decide) (d.below hb) (c.below hb);have q:=zuP;rw[<-t]at q;refine h.mono ?_;rintro e n ⟨l,⟨h1,_⟩|⟨_,g,b,m,rfl,o,_,u,y⟩⟩
 ·exact absurd q h1
 ·refine⟨g,rfl,(ziA y).mono ?_⟩
  rintro e w2 ⟨rfl,A,f,j,k⟩;rw[u]at f ⊢;refine⟨Zm (λz=>jC (jA z)) (by decide:zhi newC=0),(ziA j).mono ?_⟩;rintro e w3 ⟨rfl,B,r,v,i⟩;rw[f];exact⟨Zm (λz=>jC (jA z)) (by decide:zhi (zgH newC)=8),((hb.trans (l.mono hb.size)).trans (k.low.mono (Ql hb.size o))).trans (i.low.mono (Ql hb.size o))⟩
theorem zkn(a:RuArg)(H B A0:Int)(A:Option Addr)(c:Nat)(l:List VarV)(w:World)(h:RuLies w w.heap.size a)(hs:zb9 a)(hl:Sl w w.heap.size 3 A l.length (l.flatMap zb5))(Y:l.length<=1048576)(hq:∀x∈l,x.n.size<=1048576)(F:LibOk w)(E:TabOk w):
 Calls prog 3 #[a.value,.agg #[jA H,jA B,jA A0],.slice A l.length c] w (zyB w):=by
 obtain⟨u,z⟩:∃u,((w.alloc (.cells #[jA a.most,jA a.status,.slice a.A a.l.length a.c] 24)).alloc (.cells #[jA H,jA B,jA A0] 26))=u:=⟨_,rfl⟩
 have hI:u.heap.size=w.heap.size+2:=by rw[<-z];simp
 have s:w u:=by rw[<-z];exact WaL.alloc (by simp) _
 have hR:u.heap[w.heap.size]? = some (.cells #[jA a.most,jA a.status,.slice a.A a.l.length a.c] 24 (0,0)):=by
  rw[<-z];exact(Qs _ _ _ (by simp only[Qp];omega)).trans (Qv w _)
 have hQ:u.heap[w.heap.size+1]? = some (.cells #[jA H,jA B,jA A0] 26 (0,0)):=by
  rw[<-z];exact zbb _ _ _ (by simp only[Qp])
 have h6:Hid (∀W,u W->(∀j,W.cell? ⟨w.heap.size,j,none⟩=(#[jA a.most,jA a.status,.slice a.A a.l.length a.c]:Array Value)[j]?)/\(∀j,W.cell? ⟨w.heap.size+1,j,none⟩=(#[jA H,jA B,jA A0]:Array Value)[j]?)/\w W):=hIx λW hb=>
  ⟨zak ((hb.block _ (by omega)).trans hR),zak ((hb.block _ (by omega)).trans hQ),s.trans (hb.mono s.size)⟩
 have hu:Hid (∀(x:RuArg) W,x.set=zcs->RuLies W W.heap.size x->zb9 x->u W->Calls prog 4 #[x.value,.agg #[jA 4096,jA 4096,jA 40],jA 1,.int .u32 0,jA 9] W λe w1=>∃g,e=jC (.tuple #[.pointer (some ⟨g,0,none⟩),jA 0])/\Calls prog 7 #[.pointer (some ⟨g,0,none⟩)] w1 λe w2=>e=jC (jA 0)/\
  Calls prog 7 #[.pointer (some ⟨g,0,none⟩)] w2 λe w3=>e=jC (jA 8)/\u w3):=hIx λx W h1 h2 h3 hb=>zuC x u W h1 h2 h3 hb (F.below s) (E.below s)
 have hE:Hid (∀W,u W->Calls prog 4 #[.agg #[jA a.most,jA a.status,.slice a.A a.l.length a.c],.agg #[jA H,jA B,jA A0],jA 1,.int .u32 2,jA 5] W (ziX a H B A0 1 2 5 W)):=hIx λW hb=>by
  have d:=s.trans (hb.mono s.size);exact zsV a H B A0 1 2 5 W (h.keep d d.size) hs (by decide) (by decide) (by decide) (by decide) (by decide) (F.below d) (E.below d)
 have hd:Hid (∀W,w W->∀j (hj:j<l.length),(∃b J,A=some ⟨b,J,none⟩/\b<w.heap.size/\∀i,i<3->∀v,(zb5 l[j])[i]? = some v->W.cell? ⟨b,J+j*3+i,none⟩=some v)/\l[j].n.size<=1048576):=hIx λW hb j hj=>⟨by
  have h2:=hl.below hb;have hV:=za3 zb5 3 (λ_=>rfl) l;obtain⟨b,J,e,hH,hc⟩:=h2.src (by omega);refine⟨b,J,e,hH,λi hi v hv=>?_⟩;have h1:=zcA zb5 3 (λ_=>rfl) l j i hj hi;have h3:j*3+i<(l.flatMap zb5).length:=by omega
  rw[Zf,hc (j*3+i) h3];rw[Qe h3]at h1;rw[h1,hv],hq _ (QC hj)⟩
 have h0:=hIx Y;have hL:=hIx z;unfold RuArg.value;clear z hR hQ hI s h hs hl Y hq F E
 go_in
 go_upto_region 1 with fail
 rw[hL.out]
 go_wp2_with (first
  |(go_at_call 5;(with_reducible refine(zpR _).mono ?_);rintro e w1 ⟨x,rfl,hC,ht,ho,D⟩)
  |(go_at_call 6;refine(zvx _).mono ?_;rintro e w2 ⟨rfl,O⟩;have Z:=D.trans (O.mono D.size);have HE:=hIx (hu.out x w2 hC (ht.keep O O.size) ho Z))
  |(go_at_call 4;apply Hid.out))
 refine WhM HE ?_;rintro e w3 ⟨g1,rfl,h3⟩;have hx:=hIx h3;clear h3 HE hC ht ho D O Z hu;go_wp2_with (go_at_call 7;apply Hid.out);refine WhM hx ?_;rintro e w4 ⟨rfl,h4⟩;have hA:=hIx h4;clear h4;go_wp2_with (go_at_call 7;apply Hid.out);refine WhM hA ?_;rintro e w5 ⟨rfl,hh⟩;have ⟨p9,q9,d⟩:=h6.out w5 hh;have HN:=hIx (hE.out w5 hh);clear hx hA hE hh h6;go_wp2_with (go_at_call 4;apply Hid.out);refine WhM HN ?_;rintro e w6 ⟨U,⟨hj,rfl⟩|⟨_,g,b,m,rfl,hg,_,hm,hc⟩⟩
 ·have n0:(zcd a.set H B A0 != 0)=true:=Q6.2 hj
  have HE:Hid (zyB w (jC (.bool true)) w6):=hIx ⟨rfl,d.trans (U.mono d.size)⟩;clear hj U d p9 q9 HN;go_wp2;exact zad HE.out
 ·have N:w.heap.size<=g:=Ql d.size hg
  have hk:Hid (zzy w g w6.heap.size ⟨b,H,B,A0,1,2,5⟩ l.length (jA 0) w6):=hIx ⟨0,newC,0,Qn _,rfl,⟨m,hm,hc,d.trans (U.mono d.size),zxQ,by decide,by decide⟩,Qn _⟩;clear hm hc U hg p9 q9 HN d;generalize w6.heap.size=L at *;generalize (⟨b,H,B,A0,1,2,5⟩:ConK)=k at *;go_wp2
  go_loopw [45] (λi wr=>zzy w g L k l.length i wr) (λi _=>l.length-(intOf i).toNat)
  case atStart=>exact hk.out
  case round=>
   obtain⟨j,S,n,hj,rfl,C,hn⟩:=hrel
   by_cases h7:j<l.length
   ·have d1:decide ((j:Int)<(l.length:Int))=true:=by simp;omega
    have i7:IntKind.i64.wrap ((j:Int)+1)=(j:Int)+1:=Qz _ (by have:=h0.out;omega);have I:w wr:=by obtain⟨_,_,_,h,_⟩:=C;exact h
    have hP:g<wr.heap.size:=by obtain⟨_,_,h,_⟩:=C;exact h.box.lt
    obtain⟨⟨b',J,rfl,_,Q⟩,hr⟩:=hd.out wr I j h7;have hF:n<=700000000000:=by have:=h0.out;omega
    generalize l[j]=X at *;obtain⟨r,xm,xt⟩:=X;have c0:=Q 0 (by decide) _ rfl;have c1:=Q 1 (by decide) _ rfl;have c2:=Q 2 (by decide) _ rfl;rw[XH]at c0;dsimp only at c0 c1 c2 hr;obtain⟨W1,T⟩:∃W1,wr.alloc (.cells #[jA r,jA xm,.string xt] 37)=W1:=⟨_,rfl⟩
    have hf:W1.heap[wr.heap.size]? = some (.cells #[jA r,jA xm,.string xt] 37 (0,0)):=by rw[<-T];exact Qv wr _
    have D:wr W1:=by rw[<-T];exact WaL
    have y:=C.below D;have q:=hIx (zos y);have t:=hIx (zxo y N hf (by omega));have P:Hid (∀W S',EnIn w g L k S' n W->EnDo w g L k S' n ⟨r,xm,xt⟩ W):=hIx λW S' h=>zAb h N hF _ (by dsimp only;omega)
    have he:=hIx hf;have K:=hIx y;have hD:=hIx T;have HN:Hid (n+65540<=(j+1)*65540):=hIx (by omega);have hO:=hIx N;clear C hn Q hr hF I hP hf D y T hk hd N;go_upto_region 10 with fail
    rw[hD.out];clear hD c0 c1 c2;go_wp2_with (go_at_call 8;apply Hid.out);refine WhM q ?_;rintro e w7 ⟨rfl,rfl⟩
    by_cases G:S.st=2
    focus
     rw[G];clear q K he;go_wp2_with (go_at_call 9;apply Hid.out);refine WhM t ?_;rintro e w1 ⟨v1,rfl,h1⟩;have hB:=hIx h1;go_wp2_with (go_at_call 10;apply Hid.out);refine WhM hB ?_;rintro e w2 ⟨v2,rfl,h2⟩;have hp:=hIx h2;go_wp2_with (go_at_call 11;apply Hid.out);refine WhM hp ?_;rintro e wq ⟨v3,rfl,ha,V⟩;have HQ:Hid (zy1 (zyn S)):=hIx ⟨G,rfl,rfl,rfl⟩;have o:=P.out wq _ V;clear h1 h2 hB hp t V G P;generalize zyn S=S' at *
    rotate_left
    focus
     have n2:(S.st==2)=false:=Qc.2 G;obtain⟨wq,hN⟩:∃x:World,x=w7:=⟨_,rfl⟩
     subst hN;have ha:=he.out;have o:=P.out wq _ K.out;clear q K he t G P
    all_goals
     have x9:=zak ha;have hJ:r=0\/r=1\/r=2\/r=3\/r=4\/(r≠0/\r≠1/\r≠2/\r≠3/\r≠4):=by omega
     clear ha
     rcases hJ with rfl|rfl|rfl|rfl|rfl|⟨m0,m1,m2,m3,m4⟩
     all_goals
      first
       |(
        have q0:(r==0)=false:=Qc.2 m0
        have q1:(r==1)=false:=Qc.2 m1;have q2:(r==2)=false:=Qc.2 m2;have q3:(r==3)=false:=Qc.2 m3;have q4:(r==4)=false:=Qc.2 m4;obtain⟨hS,f⟩:=o.c5 m0 m1 m2 m3 m4;obtain⟨w5,hK⟩:∃x:World,x=wq:=⟨_,rfl⟩
        subst hK;clear m0 m1 m2 m3 m4 o;go_upto_region 27 with fail)
       |(
        (first
         |have HD:=hIx (o.c0 rfl)
         |have HD:=hIx (o.c1 rfl)
         |have HD:=hIx (o.c2 rfl)
         |have HD:=hIx (o.c3 rfl)
         |have HD:=hIx (o.c4 rfl))
        try dsimp only at HD
        clear o;go_upto_region 27 with (first|(go_at_call 12;apply Hid.out)|(go_at_call 13;apply Hid.out)|(go_at_call 14;apply Hid.out)|(go_at_call 15;apply Hid.out)|(go_at_call 7;apply Hid.out))
        refine WhM HD ?_;rintro e w5 ⟨rfl,f⟩;clear HD;go_upto_region 27 with fail)
      first
       |(
        rw[(ztO (p:=k.p) HQ.out.1 _).2]at f
        try rw[(ztO (p:=k.p) HQ.out.1 _).1]
        have HT:=hIx (zxi f hO.out HQ.out);clear f;go_wp2_with (go_at_call 8;apply Hid.out);refine WhM HT ?_;rintro e w8 ⟨rfl,h8⟩;have hw:=hIx h8;go_wp2_with (go_at_call 9;apply Hid.out);refine WhM hw ?_;rintro e w9 ⟨rfl,h9⟩;have hz:=hIx h9;go_wp2_with (go_at_call 10;apply Hid.out);refine WhM hz ?_;rintro e hU ⟨rfl,hy⟩;have hG:=hIx hy;go_wp2_with (go_at_call 11;apply Hid.out);refine WhM hG ?_;rintro e hT ⟨A9,c9,rfl,S9,h5⟩;have HR:=hIx h5;clear h8 h9 hy HT hw hz hG h5;go_wp2;exact⟨⟨j+1,S9,n+65540,h7,rfl,HR.out,HN.out⟩,by simp only[intOf];omega⟩)
       |(
        have HR:=hIx f
        clear f;go_wp2;exact⟨⟨j+1,_,n+65540,h7,rfl,HR.out,HN.out⟩,by simp only[intOf];omega⟩)
   ·have d1:decide ((j:Int)<(l.length:Int))=false:=by simp;omega
    have I:w wr:=by obtain⟨_,_,_,h,_⟩:=C;exact h
    have HE:Hid (zyB w (jC (.bool true)) wr):=hIx ⟨rfl,I⟩;clear C I hk hd;go_wp2;exact zad HE.out
section
open Go.ChangeShapes Go.WideShapes Go.Deep
structure zkJ where
 A:Option Addr
 c:Nat
 l:List VarV
structure zoF(W:World)(v:Value)(a:zkJ):Prop where
 val:v=.slice a.A a.l.length a.c
 sl:Sl W W.heap.size 3 a.A a.l.length (a.l.flatMap zb5)
def zsm{H:Type}(f:VarV):DataW H:=.agg [.lit (.int .i64 f.k),.lit (.int .i64 f.m),.lit (.string f.n.data.toList)]
def zo9{H:Type}(a:zkJ)(d:DataW H):Prop:=(d=.nil/\a.l=[])\/∃sp,d=.slice (a.l.map zsm) sp
theorem zqE{H:Type}{a:zkJ}{d:DataW H}(h:zo9 a d)(hb:Rows.uptoBulk d<=1048576):a.l.length<=1048576/\∀x∈a.l,x.n.size<=1048576:=by
 rcases h with ⟨_,h⟩|⟨sp,rfl⟩
 ·rw[h];exact⟨Qn _,λx b=>(by cases b)⟩
 ·have:=zdh (l:=a.l.map λz=>(zsm z:DataW H)) (sp:=sp)
  rw[Qk]at this;have e:(a.l.map λf=>(zsm f:DataW H))=a.l.map zsm:=rfl;rw[e]at this;exact⟨by omega,λx b=>zk7 (H:=H) (zc5 (l:=[.lit (.int .i64 x.k),.lit (.int .i64 x.m),.lit (.string x.n.data.toList)]) (by simp) (zij (QS.2 ⟨x,b,rfl⟩) hb))⟩
theorem zmP:prog.cellsOf 3=1:=by kernel_rfl
theorem zlP:prog.cellsOf 9=1:=by kernel_rfl
theorem zfR:prog.cellsOf 37=3:=by kernel_rfl
theorem znF{d:Type}{l:List d}(h:l.length=3):∃a b c,l=[a,b,c]:=by
 match l,h with
 | [a,b,c],_=>exact⟨a,b,c,rfl⟩
theorem zqt{H:Type}{enc:TypeId × Value->H}{W:World}{base q:Nat}{r:Reach}{b:Nat->Bool}{e:Bool}{v:Value}{d:DataW H}{p:List MemPlace}
 (E:Value.okWide prog W r q 27 v) (h:DataW.Trod enc prog W base b e 27 v d p):
 ∃a,zoF W v a/\zo9 a d:=by
 obtain⟨a,f,cap,rfl⟩:=okWide_slice underlying27 E;obtain⟨m,h⟩:=h
 obtain⟨A,len,c,l,h1,h2,K,_,_,D,t⟩:=zed 3 zb5 zsm (λ_=>True) underlying27 zfR (λ_=>rfl)
  (λn w y x=>by
   obtain⟨N,G,O,n',C,hl,k,h1,h2⟩:=trod_struct3 underlying37 x;rw[zfR]at hl;obtain⟨c0,c1,c2,rfl⟩:=znF hl;rw[zmP]at k h1;rw[zlP]at h2;obtain⟨u,g,o,L⟩:=ZF underlying3 k;obtain⟨z,j,F,J⟩:=ZF underlying3 h1;obtain⟨s,i,B,I⟩:=DataW.trod_string underlying9 h2;injection g with g _
   injection j with j _
   injection i with i _
   subst g;subst j;subst i;subst o;subst F;subst B;subst C
   exact⟨⟨u,z,s⟩,rfl,rfl,trivial⟩) h
 subst h2;have h1:[Value.slice a f cap]=[Value.slice A l.length c]:=h1;exact⟨⟨A,c,l⟩,⟨(List.cons.inj h1).1,D⟩,t⟩
end
theorem zlX(a:RuArg)(H B A0:Int)(q:zkJ)(w:World){g f:Value}(j:zoq w g a)(i:zb9 a)(hl:zoF w f q)(d:q.l.length<=1048576/\∀x∈q.l,x.n.size<=1048576)(b:LibOk w)
 (h:Lib.TabIs prog w "internal/strconv.uint64pow10" .u64 Lib.pow10Tab):
 Calls prog 3 #[a.value,.agg #[jA H,jA B,jA A0],.slice q.A q.l.length q.c] w λe w'=>e=jC (.bool true)/\w w':=
 zkn a H B A0 q.A q.c q.l w j.lies i hl.sl d.1 d.2 b (TabOk.of h)
section
open Go.ChangeShapes Go.WideShapes Go.Deep
theorem zjf:prog.cellsOf 26=3:=by kernel_rfl
theorem zmU{H:Type}{enc:TypeId × Value->H}{W:World}{base j:Nat}{r:Reach}{a:Nat->Bool}{b:Bool}{v:Value}{d:DataW H}{p:List MemPlace}
 (m:Value.okWide prog W r j 26 v) (h:DataW.Trod enc prog W base a b 26 v d p):
 ∃x y z:Int,v=.agg #[jA x,jA y,jA z]:=by
 obtain⟨u,q,s,t,o,w,n,rfl,rfl,rfl,i,h1,h2⟩:=Joins.open_agg3 underlying26 (by kernel_rfl) zjf m h;obtain⟨k,c,_,_⟩:=ZF underlying3 i;obtain⟨g,f,_,_⟩:=ZF underlying3 h1;obtain⟨l,e,_,_⟩:=ZF underlying3 h2;injection c with c _
 injection f with f _
 injection e with e _
 subst c;subst f;subst e
 exact⟨k,g,l,rfl⟩
end
