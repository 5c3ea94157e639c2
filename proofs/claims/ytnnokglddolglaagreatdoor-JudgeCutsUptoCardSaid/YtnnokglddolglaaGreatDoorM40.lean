/- Lemmas for the last texts. -/
import Derived.Test.YtnnokglddolglaaGreatDoorM39
set_option maxHeartbeats 3200000
set_option maxRecDepth 100000
namespace Go.Proofs.YtnnokglddolglaaGreatDoor
open Go.RowKit Go.Proofs.Tryz
theorem zqL(x:Int)(w:World):Calls prog 38 #[jA x] w λe w'=>e=jC (jA (zeY x))/\w'=w:=by
 by_cases b:x=5
 ·subst b
  go_in
  go_wp2;go_ret;exact⟨rfl,rfl⟩
 ·have f:(x==5)=false:=Qb.2 b
  by_cases a:x=6
  ·subst a
   go_in
   go_wp2;go_ret;exact⟨rfl,rfl⟩
  ·have d:(x==6)=false:=Qb.2 a
   have c:Hid (zeY x=400):=by unfold Hid zeY;rw[Qe b,Qe a]
   clear b a
   go_in
   go_wp2;go_ret;exact⟨by rw[c.out];rfl,rfl⟩
noncomputable def zbY(r:zeG)(H B A:Int):Int:=if zbf argC r≠0 then zbf argC r else bndE H B A
theorem zpX(a:RuArg)(H B A:Int)(w:World)(h:RuLies w w.heap.size a)(y:zdb a)(j:LibOk w):
 Calls prog 37 #[a.value,.agg #[jA H,jA B,jA A]] w λe w'=>e=jC (jA (zbY a.set H B A))/\w w':=by
 obtain⟨b,d⟩:∃b,((w.alloc (.cells #[jA a.most,jA a.status,.slice a.A a.l.length a.c] 24)).alloc (.cells #[jA H,jA B,jA A] 58))=b:=⟨_,rfl⟩
 have p:b.heap.size=w.heap.size+2:=by rw[<-d];simp
 have f:w b:=by rw[<-d];exact WaL.alloc (by simp) _
 have n:R3' b w.heap.size a.most a.status (.slice a.A a.l.length a.c):=by
  rw[<-d];exact(Qr _ _ _ (by simp only[Qp];omega)).trans (Qt w _)
 have x:b.heap[w.heap.size+1]? = some (.cells #[jA H,jA B,jA A] 58 (0,0)):=by
  rw[<-d];exact zbu _ _ _ (by simp only[Qp])
 have k:w.heap.size+1<b.heap.size:=by omega
 have s:Hid (Calls prog 27 #[.agg #[jA a.most,jA a.status,.slice a.A a.l.length a.c]] b (zbl (zbf argC a.set) b)):=zmN a b (h.keep f f.size) y (j.below f);have E:b.cell? w.heap.size=some (jA a.most):=Qf _ _ 0 _ _ _ n;have z:b.cell? ⟨w.heap.size,1,none⟩=some (jA a.status):=Qf _ _ 1 _ _ _ n;have G:b.cell? ⟨w.heap.size,2,none⟩=some (.slice a.A a.l.length a.c):=Qf _ _ 2 _ _ _ n
 have D:Hid (∀W,b W->W.cell? (w.heap.size+1:)=some (jA H)/\W.cell? ⟨w.heap.size+1,1,none⟩=some (jA B)/\W.cell? ⟨w.heap.size+1,2,none⟩=some (jA A)/\w W):=hIx λW hb=>by
  have r:=(hb.block _ k).trans x;exact⟨Qf _ _ 0 _ _ _ r,Qf _ _ 1 _ _ _ r,Qf _ _ 2 _ _ _ r,f.trans (hb.mono f.size)⟩
 have m:Hid (zbY a.set H B A=if zbf argC a.set≠0 then zbf argC a.set else bndE H B A):=rfl;generalize zbY a.set H B A=J at *;generalize zbf argC a.set=C at *;have q:=hIx d;unfold RuArg.value;clear d n x h y p f k
 go_in
 go_upto_region 1 with fail
 rw[q.out];go_wp2_with (go_at_call 27;apply Hid.out);refine WhM s ?_;rintro e v ⟨rfl,u⟩;have ⟨I,K,N,g⟩:=D.out v u;clear E z G
 by_cases o:C=0
 ·subst o
  have F:=hIx (zkc H B A v);have i:Hid (J=bndE H B A):=hIx (by rw[m.out,Qe (by decide)]);clear m;go_wp2_with (go_at_call 40;apply Hid.out);refine WhM F ?_;rintro e w2 ⟨rfl,t⟩;go_wp2;go_ret;exact⟨by rw[i.out];rfl,g.trans (t.mono g.size)⟩
 ·have L:(C != 0)=true:=Q7.2 o
  have i:Hid (J=C):=hIx (by rw[m.out,Qg o]);clear o m;go_wp2;go_ret;exact⟨by rw[i.out];rfl,g⟩
def O9(w:World)(g:Nat)(c d e h a i j f b:Value):Prop:=w.heap[g]? = some (.cells #[c,d,e,h,a,i,j,f,b] 62 (0,0))
def putO(w:World)(g:Nat)(c d e h a i j f b:Value):World:=
 ((((((((w.setCell g c).setCell ⟨g,1,none⟩ d).setCell ⟨g,2,none⟩ e).setCell ⟨g,3,none⟩ h).setCell ⟨g,4,none⟩ a).setCell ⟨g,5,none⟩ i).setCell ⟨g,6,none⟩ j).setCell ⟨g,7,none⟩ f).setCell ⟨g,8,none⟩ b
theorem zkH(w:World)(g:Nat)(c d e h a i j f b:Value):((((((((w.setCell g c).setCell ⟨g,1,none⟩ d).setCell ⟨g,2,none⟩ e).setCell ⟨g,3,none⟩ h).setCell ⟨g,4,none⟩ a).setCell ⟨g,5,none⟩ i).setCell ⟨g,6,none⟩ j).setCell ⟨g,7,none⟩ f).setCell ⟨g,8,none⟩ b=putO w g c d e h a i j f b:=rfl
section
variable {w:World} {g:Nat} {a0 a1 a2 a3 a4 a5 a6 a7 a8:Value}
theorem O9.set(h:O9 w g a0 a1 a2 a3 a4 a5 a6 a7 a8)(a b c d e f i j k:Value):O9 (putO w g a b c d e f i j k) g a b c d e f i j k:=by
 unfold putO;obtain⟨p,r⟩:∃x,w.setCell g a=x:=⟨_,rfl⟩
 have C:O9 p g a a1 a2 a3 a4 a5 a6 a7 a8:=by rw[<-r];exact Q3 w g 0 _ _ _ h
 rw[r];obtain⟨m,z⟩:∃x,p.setCell ⟨g,1,none⟩ b=x:=⟨_,rfl⟩
 have h1:O9 m g a b a2 a3 a4 a5 a6 a7 a8:=by rw[<-z];exact Q3 p g 1 _ _ _ C
 rw[z];obtain⟨w2,v⟩:∃x,m.setCell ⟨g,2,none⟩ c=x:=⟨_,rfl⟩
 have h2:O9 w2 g a b c a3 a4 a5 a6 a7 a8:=by rw[<-v];exact Q3 m g 2 _ _ _ h1
 rw[v];obtain⟨w3,A⟩:∃x,w2.setCell ⟨g,3,none⟩ d=x:=⟨_,rfl⟩
 have H:O9 w3 g a b c d a4 a5 a6 a7 a8:=by rw[<-A];exact Q3 w2 g 3 _ _ _ h2
 rw[A];obtain⟨l,B⟩:∃x,w3.setCell ⟨g,4,none⟩ e=x:=⟨_,rfl⟩
 have D:O9 l g a b c d e a5 a6 a7 a8:=by rw[<-B];exact Q3 w3 g 4 _ _ _ H
 rw[B];obtain⟨q,s⟩:∃x,l.setCell ⟨g,5,none⟩ f=x:=⟨_,rfl⟩
 have F:O9 q g a b c d e f a6 a7 a8:=by rw[<-s];exact Q3 l g 5 _ _ _ D
 rw[s];obtain⟨n,u⟩:∃x,q.setCell ⟨g,6,none⟩ i=x:=⟨_,rfl⟩
 have J:O9 n g a b c d e f i a7 a8:=by rw[<-u];exact Q3 q g 6 _ _ _ F
 rw[u];obtain⟨o,t⟩:∃x,n.setCell ⟨g,7,none⟩ j=x:=⟨_,rfl⟩
 have E:O9 o g a b c d e f i j a8:=by rw[<-t];exact Q3 n g 7 _ _ _ J
 rw[t];obtain⟨I,y⟩:∃x,o.setCell ⟨g,8,none⟩ k=x:=⟨_,rfl⟩
 have G:O9 I g a b c d e f i j k:=by rw[<-y];exact Q3 o g 8 _ _ _ E
 rw[y];exact G
theorem O9.cell(h:O9 w g a0 a1 a2 a3 a4 a5 a6 a7 a8)(j:Nat):w.cell? ⟨g,j,none⟩=(#[a0,a1,a2,a3,a4,a5,a6,a7,a8]:Array Value)[j]? := Qf w g j _ _ (0,0) h
theorem O9.free(h:O9 w g a0 a1 a2 a3 a4 a5 a6 a7 a8)(j:Nat):w.frozen? ⟨g,j,none⟩=false:=Z4 _ _ j _ _ h
theorem O9.nine(h:O9 w g a0 a1 a2 a3 a4 a5 a6 a7 a8):(w.cell? g=some a0/\w.cell? ⟨g,1,none⟩=some a1/\w.cell? ⟨g,2,none⟩=some a2/\w.cell? ⟨g,3,none⟩=some a3)/\w.cell? ⟨g,4,none⟩=some a4/\w.cell? ⟨g,5,none⟩=some a5/\w.cell? ⟨g,6,none⟩=some a6/\w.cell? ⟨g,7,none⟩=some a7/\w.cell? ⟨g,8,none⟩=some a8:=
 ⟨⟨h.cell 0,h.cell 1,h.cell 2,h.cell 3⟩,h.cell 4,h.cell 5,h.cell 6,h.cell 7,h.cell 8⟩
end
theorem zsS(w:World)(g:Nat)(c d e i a j l f b:Value)(k:Nat)(h:k≠g):(putO w g c d e i a j l f b).heap[k]? = w.heap[k]? := by
 unfold putO;rw[Qk _ _ _ _ h,Qk _ _ _ _ h,Qk _ _ _ _ h,Qk _ _ _ _ h,Qk _ _ _ _ h,Qk _ _ _ _ h,Qk _ _ _ _ h,Qk _ _ _ _ h,Qk _ _ _ _ h]
theorem zqy{B:Nat}{b w:World}(h:Below B b w){g:Nat}(a:B<=g)(e f i k c l m j d:Value):Below B b (putO w g e f i k c l m j d):=
 ((((((((h.setCell (p:=⟨g,0,none⟩) a _).setCell (p:=⟨g,1,none⟩) a _).setCell (p:=⟨g,2,none⟩) a _).setCell (p:=⟨g,3,none⟩) a _).setCell (p:=⟨g,4,none⟩) a _).setCell (p:=⟨g,5,none⟩) a _).setCell (p:=⟨g,6,none⟩) a _).setCell (p:=⟨g,7,none⟩) a _).setCell (p:=⟨g,8,none⟩) a _
theorem RunIn.keep{a:RuArg}{m t b:ByteArray}{d:List zal}{A:Option Addr}{c most:Nat}{w W:World}(h:RunIn a m t b d A c most w)(hb:w W):RunIn a m t b d A c most W:=
 ⟨h.lies.keep hb hb.size,h.bulk,(h.f.below hb).more hb.size,h.fz,h.fl,h.tz,h.bz,h.mz,h.cz,h.lib.below hb,h.tab.below hb⟩
theorem zuq{w a w3:World}{g:Nat}{v:Value}{l:List Int}(q:g<a.heap.size)(p:w.heap.size<=g)(hb:w w3)(e:OwnG rowZ w3 a.heap.size v l)(j m n d h f i c b:Value):
 OwnG rowZ (putO w3 g j m n d h f i c b) w.heap.size v l/\w (putO w3 g j m n d h f i c b):=
 ⟨(e.keep λk o=>zsS _ _ _ _ _ _ _ _ _ _ _ _ (by have:=(e.lt k o).1;omega)).low (by omega),zqy hb p _ _ _ _ _ _ _ _ _⟩
def zk8(a:RuArg)(d most:Nat)(q:ReqV)(A:Option Addr)(c:Nat)(w:World)(e:Ending)(w':World):Prop:=
 ∃(x:OutM) (s:ByteArray),e=jC (.tuple #[.agg #[.string x.p.q.h.m,.string x.p.q.h.t,.slice x.A x.p.q.h.fs.length x.c,.string (bs x.p.q.b),jA x.p.st,jA x.p.who,jA x.p.sc,.slice x.Am x.p.mt.length x.cm,jA x.p.err],.string s])/\
  x.p=outJ a.set d most q/\(x=badM 400\/x.A=A/\x.c=c/\x.p.q=q/\x.p.err=0)/\OwnG rowZ w' w.heap.size (.slice x.Am x.p.mt.length x.cm) x.p.mt/\w w'
theorem zod(a:RuArg)(H B:Int)(C most:Nat)(q:ReqV)(A:Option Addr)(c:Nat)(w:World)(h:RunIn a q.h.m q.h.t (bs q.b) q.h.fs A C most w)(hm:q.h.m.size<=maxLen)(o:zgx q.h.fs):
 Calls prog 39 #[a.value,.agg #[jA H,jA B,jA (most:Int)],.int .u32 (C:Int),.agg #[.string q.h.m,.string q.h.t,.slice A q.h.fs.length c,.string (bs q.b)]] w (zk8 a C most q A c w):=by
 obtain⟨⟨m,t,g⟩,b⟩:=q;dsimp only at *;obtain⟨i,k⟩:∃i,((((w.alloc (.cells #[jA a.most,jA a.status,.slice a.A a.l.length a.c] 24)).alloc (.cells #[jA H,jA B,jA (most:Int)] 58)).alloc (.cells #[.string m,.string t,.slice A g.length c,.string (bs b)] 29)).alloc (.cells #[.string (.mk #[]),.string (.mk #[]),jD 0 0,.string (.mk #[]),jA 0,jA 0,jA 0,jD 0 0,jA 0] 62))=i:=⟨_,rfl⟩
 have hg:i.heap.size=w.heap.size+4:=by rw[<-k];simp
 have s:w i:=by rw[<-k];exact((WaL.alloc (by simp) _).alloc (by simp;omega) _).alloc (by simp;omega) _
 have hR:R3' i w.heap.size a.most a.status (.slice a.A a.l.length a.c):=by
  rw[<-k];exact(Qr _ _ _ (by simp only[Qp];omega)).trans ((Qr _ _ _ (by simp only[Qp];omega)).trans ((Qr _ _ _ (by simp only[Qp];omega)).trans (Qt w _)))
 have hB:i.heap[w.heap.size+1]? = some (.cells #[jA H,jA B,jA (most:Int)] 58 (0,0)):=by
  rw[<-k];exact(Qr _ _ _ (by simp only[Qp];omega)).trans ((Qr _ _ _ (by simp only[Qp];omega)).trans (zbu _ _ _ (by simp only[Qp])))
 have Z:i.heap[w.heap.size+1+1]? = some (.cells #[.string m,.string t,.slice A g.length c,.string (bs b)] 29 (0,0)):=by
  rw[<-k];exact(Qr _ _ _ (by simp only[Qp];omega)).trans (zbu _ _ _ (by simp only[Qp]))
 have hO:O9 i (w.heap.size+1+1+1) (.string (.mk #[])) (.string (.mk #[])) (jD 0 0) (.string (.mk #[])) (jA 0) (jA 0) (jA 0) (jD 0 0) (jA 0):=by
  rw[<-k];exact zbu _ _ _ (by simp only[Qp])
 have D:Hid (∀W,i W->W.heap[w.heap.size+1+1]? = some (.cells #[.string m,.string t,.slice A g.length c,.string (bs b)] 29 (0,0))/\O9 W (w.heap.size+1+1+1) (.string (.mk #[])) (.string (.mk #[])) (jD 0 0) (.string (.mk #[])) (jA 0) (jA 0) (jA 0) (jD 0 0) (jA 0)/\w W):=hIx λW hb=>
  ⟨(hb.block _ (by omega)).trans Z,(hb.block _ (by omega)).trans hO,s.trans (hb.mono s.size)⟩
 have Q:Hid (Calls prog 7 #[.agg #[jA a.most,jA a.status,.slice a.A a.l.length a.c],.agg #[.string m,.string t,.slice A g.length c,.string (bs b)],.int .u32 (C:Int),jA (most:Int)] i (zg7 (runG a.set m t (bs b) g C most) i)):=hIx (zyo a m t (bs b) g A c C most i (h.keep s));have h5:(bs b).size<=maxLen:=by have:=h.bz;unfold maxLen;omega
 have h0:t.size<=maxLen:=by have:=h.tz;unfold maxLen;omega
 have I:Hid (∀W,i W->Calls prog 36 #[.agg #[.string m,.string t,.slice A g.length c,.string (bs b)]] W (zfN ⟨m,t,g⟩ b W)):=hIx λW hb=>by
  have hk:=h.keep (s.trans (hb.mono s.size));have:=ziK ⟨m,t,g⟩ (bs b) A c W hk.f hm h0 h5 o hk.lib hk.tab;rw[zah]at this;exact this
 have n:Hid (outJ a.set C most ⟨⟨m,t,g⟩,b⟩=if (runG a.set m t (bs b) g C most).1≠0\/fwdE ⟨m,t,g⟩ b≠0 then errO 400 else reqO ⟨⟨m,t,g⟩,b⟩ (runG a.set m t (bs b) g C most).2):=rfl;unfold zk8;generalize outJ a.set C most ⟨⟨m,t,g⟩,b⟩=OJ at *;generalize runG a.set m t (bs b) g C most=G at *;obtain⟨FE,h9⟩:∃FE,fwdE ⟨m,t,g⟩ b=FE:=⟨_,rfl⟩
 unfold zfN at I;rw[h9]at I n;have r0:i.cell? w.heap.size=some (jA a.most):=Qf _ _ 0 _ _ _ hR;have r1:i.cell? ⟨w.heap.size,1,none⟩=some (jA a.status):=Qf _ _ 1 _ _ _ hR;have r2:i.cell? ⟨w.heap.size,2,none⟩=some (.slice a.A a.l.length a.c):=Qf _ _ 2 _ _ _ hR;have b2:i.cell? ⟨w.heap.size+1,2,none⟩=some (jA (most:Int)):=Qf _ _ 2 _ _ _ hB;have q0:i.cell? (w.heap.size+1+1:)=some (.string m):=Qf _ _ 0 _ _ _ Z;have q1:i.cell? ⟨w.heap.size+1+1,1,none⟩=some (.string t):=Qf _ _ 1 _ _ _ Z;have q2:i.cell? ⟨w.heap.size+1+1,2,none⟩=some (.slice A g.length c):=Qf _ _ 2 _ _ _ Z;have q3:i.cell? ⟨w.heap.size+1+1,3,none⟩=some (.string (bs b)):=Qf _ _ 3 _ _ _ Z;have HZ:Hid (w.heap.size+1+1+1<i.heap.size):=hIx (by omega);have hh:w.heap.size+1+1<i.heap.size:=by omega
 have hd:=hIx k;unfold RuArg.value;clear k hR hB Z hO h9 h hg s hm o h5 h0
 go_in
 go_upto_region 1 with fail
 rw[hd.out];go_wp2_with (go_at_call 7;apply Hid.out);refine WhM Q ?_;rintro e N ⟨mv,rfl,U,Y⟩;obtain⟨F,E,rfl,_⟩:=U.form;obtain⟨j,S⟩:=G;dsimp only at *;unfold verV;have p:N (N.alloc (.cells #[jA S.st,jA S.who,jA S.sc,.slice F S.mt.length E] 33)):=WaL;have L:V4 (N.alloc (.cells #[jA S.st,jA S.who,jA S.sc,.slice F S.mt.length E] 33)) N.heap.size S.st S.who S.sc (.slice F S.mt.length E):=Qt N _;obtain⟨K,T⟩:∃K,N.alloc (.cells #[jA S.st,jA S.who,jA S.sc,.slice F S.mt.length E] 33)=K:=⟨_,rfl⟩
 rw[T]at p L;have y:=Y.trans (p.mono Y.size);have ⟨x,_,_⟩:=D.out K y;have HF:=hIx (I.out K y);have he:N.heap.size<K.heap.size:=zaz L;have h8:=U.below p;have p0:K.cell? (w.heap.size+1+1:)=some (.string m):=Qf _ _ 0 _ _ _ x;have p1:K.cell? ⟨w.heap.size+1+1,1,none⟩=some (.string t):=Qf _ _ 1 _ _ _ x;have p2:K.cell? ⟨w.heap.size+1+1,2,none⟩=some (.slice A g.length c):=Qf _ _ 2 _ _ _ x;have p3:K.cell? ⟨w.heap.size+1+1,3,none⟩=some (.string (bs b)):=Qf _ _ 3 _ _ _ x;have h7:=hIx T;clear T x r0 r1 r2 b2 q0 q1 q2 q3 Q I U p;go_upto_region 2 with fail
 rw[h7.out];go_wp2_with (go_at_call 36;apply Hid.out);refine WhM HF ?_;rintro e w3 ⟨h3,J⟩
 obtain⟨X,rfl⟩:∃X:ByteArray,e=jC (.tuple #[.string X,jA FE]):=by
  rcases h3 with ⟨e1,e2⟩|⟨_,e2⟩
  ·exact⟨_,by rw[e2,e1]⟩
  ·exact⟨_,e2⟩
 have O:=y.trans (J.mono y.size);have ⟨u,d,h4⟩:=D.out w3 O;have ha:=h8.below J;have V:V4 w3 N.heap.size S.st S.who S.sc (.slice F S.mt.length E):=(J.block _ he).trans L;have r:=hIx (λa0 a1 a2 a3 a4 a5 a6 a7 a8=>zuq HZ.out (by omega:w.heap.size<=w.heap.size+1+1+1) h4 ha a0 a1 a2 a3 a4 a5 a6 a7 a8);have P:Hid (∀a0 a1 a2 a3 a4 a5 a6 a7 a8,w (putO w3 (w.heap.size+1+1+1) a0 a1 a2 a3 a4 a5 a6 a7 a8)):=hIx λa0 a1 a2 a3 a4 a5 a6 a7 a8=>(r.out a0 a1 a2 a3 a4 a5 a6 a7 a8).2
 have f0:=d.free 0;have f1:=d.free 1;have f2:=d.free 2;have f3:=d.free 3;have f4:=d.free 4;have f5:=d.free 5;have f6:=d.free 6;have f7:=d.free 7;have f8:=d.free 8;have ⟨⟨o0,o1,o2,o3⟩,o4,o5,o6,o7,o8⟩:=d.nine;clear h3 J HF h8 L Y y O hd h7 p0 p1 p2 p3 ha D;have h6:=hIx d
 by_cases z:j≠0\/FE≠0
 ·have ht:=h6.out.set (.string (.mk #[])) (.string (.mk #[])) (jD 0 0) (.string (.mk #[])) (jA 0) (jA 0) (jA 0) (jD 0 0) (jA 400)
  have HT:=hIx ht.nine;have HJ:Hid (OJ=errO 400):=hIx (by rw[n.out,Qg z])
  have n0:(j != 0)=true\/((j != 0)=false/\(FE != 0)=true):=by
   by_cases h:j=0
   ·exact .inr ⟨by rw[h];rfl,Q7.2 (by omega)⟩
   ·exact .inl (Q7.2 h)
  clear z n ht d V u r
  rcases n0 with n0|⟨n0,n1⟩
  all_goals
   go_wp2_with fail;rw[zkH];have ⟨⟨t0,t1,t2,t3⟩,t4,t5,t6,t7,t8⟩:=HT.out;exact Qi (v:=.tuple #[.agg #[.string (.mk #[]),.string (.mk #[]),jD 0 0,.string (.mk #[]),jA 0,jA 0,jA 0,jD 0 0,jA 400],.string (.mk #[])]) (by simp[results,results39,go_sem,t0,t1,t2,t3,t4,t5,t6,t7,t8]) rfl ⟨badM 400,ByteArray.mk #[],rfl,HJ.out.symm,.inl rfl,OwnG.nil _ _ _,P.out _ _ _ _ _ _ _ _ _⟩
 ·have hc:j=0:=by omega
  have hf:FE=0:=by omega
  subst hc;subst hf
  have ht:=h6.out.set (.string m) (.string t) (.slice A g.length c) (.string (bs b)) (jA S.st) (jA S.who) (jA S.sc) (.slice F S.mt.length E) (jA 0);have HT:=hIx ht.nine;have HJ:Hid (OJ=reqO ⟨⟨m,t,g⟩,b⟩ S):=hIx (by rw[n.out,Qe (by decide)]);have ⟨v0,v1,v2,v3⟩:=V.four;have q0:w3.cell? (w.heap.size+1+1:)=some (.string m):=Qf _ _ 0 _ _ _ u;have q1:w3.cell? ⟨w.heap.size+1+1,1,none⟩=some (.string t):=Qf _ _ 1 _ _ _ u;have q2:w3.cell? ⟨w.heap.size+1+1,2,none⟩=some (.slice A g.length c):=Qf _ _ 2 _ _ _ u;have q3:w3.cell? ⟨w.heap.size+1+1,3,none⟩=some (.string (bs b)):=Qf _ _ 3 _ _ _ u;clear z n ht d V u P
  by_cases o:S.st=0
  ·have n0:(S.st != 0)=false:=by rw[o];rfl
   clear o;go_wp2_with fail;rw[zkH];have ⟨⟨t0,t1,t2,t3⟩,t4,t5,t6,t7,t8⟩:=HT.out;exact Qi (v:=.tuple #[.agg #[.string m,.string t,.slice A g.length c,.string (bs b),jA S.st,jA S.who,jA S.sc,.slice F S.mt.length E,jA 0],.string X]) (by simp[results,results39,go_sem,t0,t1,t2,t3,t4,t5,t6,t7,t8]) rfl ⟨⟨reqO ⟨⟨m,t,g⟩,b⟩ S,A,c,F,E⟩,X,rfl,HJ.out.symm,.inr ⟨rfl,rfl,rfl,rfl⟩,r.out _ _ _ _ _ _ _ _ _⟩
  ·have n0:(S.st != 0)=true:=Q7.2 o
   clear o;go_wp2_with fail;rw[zkH];have ⟨⟨t0,t1,t2,t3⟩,t4,t5,t6,t7,t8⟩:=HT.out;exact Qi (v:=.tuple #[.agg #[.string m,.string t,.slice A g.length c,.string (bs b),jA S.st,jA S.who,jA S.sc,.slice F S.mt.length E,jA 0],.string (.mk #[])]) (by simp[results,results39,go_sem,t0,t1,t2,t3,t4,t5,t6,t7,t8]) rfl ⟨⟨reqO ⟨⟨m,t,g⟩,b⟩ S,A,c,F,E⟩,ByteArray.mk #[],rfl,HJ.out.symm,.inr ⟨rfl,rfl,rfl,rfl⟩,r.out _ _ _ _ _ _ _ _ _⟩
theorem zuB{q:ReqV}(h:fwdE q.h q.b=0):(fwdT q).length<=35250:=by
 have a:=zwy h;have h1:=zgq _ (zdF a.out);have h2:=a.len;unfold fwdT;rw[Qa];omega
theorem zxK{o:OutP}(h:zjh o=true)(a:fwdE o.q.h o.q.b≠0):upO o=[]:=by unfold upO;rw[Qg h,Qe a]
theorem ztl(o:OutP):(upO o).length<=35250:=by
 unfold upO
 split
 ·split
  ·rename_i h;exact zuB h
  ·exact Qm _
 ·exact Qm _
theorem znJ:∀l:List OutP,(upJ l).length<=l.length*35250:=by
 intro l
 induction l with
 |nil=>exact Qm _
 |cons o l ih=>
  rw[zwp,Qa,Qn,Xq];have:=ztl o;omega
def UpOk(x:OutM):Prop:=zjh x.p=true->x.p.q.h.m.size<=maxLen/\x.p.q.h.t.size<=maxLen/\x.p.q.b.length<=maxLen/\zgx x.p.q.h.fs
def zyZ(l:List OutM)(w:World)(v i:Value)(wr:World):Prop:=∃k,k<=l.length/\i=jA (k:Int)/\v=.string (bs (upJ ((l.map OutM.p).take k)))/\w wr
theorem zui(o:OutP):zjh o=(o.err==0&&o.st==0):=rfl
theorem zzk(l:List OutM)(A:Option Addr)(c:Nat)(w:World)(h:Sl w w.heap.size 9 A l.length (l.flatMap zaN))(ha:∀x∈l,OutIn w w.heap.size x)(S:∀x∈l,UpOk x)(hl:l.length<=1048576)(I:LibOk w)(H:TabOk w):
 Calls prog 19 #[.slice A l.length c] w λe w'=>e=jC (.string (bs (upJ (l.map OutM.p))))/\w w':=by
 have h5:Hid (∀k,k<=l.length->(upJ ((l.map OutM.p).take k)).length<=36962304000):=hIx λk o=>by
  have:=znJ ((l.map OutM.p).take k);rw[QJ,Qh,Xn o]at this;omega
 have Q:Hid (∀k (o:k<l.length),upJ ((l.map OutM.p).take (k+1))=upJ ((l.map OutM.p).take k)++upO l[k].p):=hIx λk o=>by
  rw[Qs (by rw[Qh];exact o),zu5,Zm]
 have hj:Hid (∀W,w W->∀k (o:k<l.length),∃b off,A=some ⟨b,off,none⟩/\b<w.heap.size/\∀j,j<9->∀v,(zaN l[k])[j]? = some v->W.cell? ⟨b,off+k*9+j,none⟩=some v):=hIx λW hb k o=>zoS (h.below hb) k o
 have hd:Hid (∀k (o:k<l.length),zjh l[k].p=true->∀W,w W->Calls prog 36 #[.agg #[.string l[k].p.q.h.m,.string l[k].p.q.h.t,.slice l[k].A l[k].p.q.h.fs.length l[k].c,.string (bs l[k].p.q.b)]] W (zfN l[k].p.q.h l[k].p.q.b W)):=hIx λk o hp W hb=>by
  obtain⟨hm,ht,hg,hn⟩:=S _ (Qz o) hp;have hi:=(ha _ (Qz o)).keep hb hb.size;have:=ziK l[k].p.q.h (bs l[k].p.q.b) l[k].A l[k].c W hi.f hm ht (by rw[zae];exact hg) hn (I.below hb) (H.below hb);rw[zah]at this;exact this
 have h6:Hid (upJ ((l.map OutM.p).take l.length)=upJ (l.map OutM.p)):=hIx (by rw[QF (by rw[Qh];omega)]);clear h ha S I H
 go_in
 go_wp2
 go_loopw [3,10] (λv i wr=>zyZ l w v i wr) (λ_ i _=>l.length-(intOf i).toNat)
 case atStart=>exact⟨0,Qm _,rfl,rfl,Qj _ _⟩
 case round=>
  obtain⟨k,o,rfl,rfl,s⟩:=hrel;have J:=h5.out k o
  by_cases B:k<l.length
  ·have d1:decide ((k:Int)<(l.length:Int))=true:=by simp;omega
   have i7:IntKind.i64.wrap ((k:Int)+1)=(k:Int)+1:=Qx _ (by omega);obtain⟨b',off,rfl,_,g⟩:=hj.out wr s k B;have L:=hd.out k B;have u:=Q.out k B;obtain⟨T,hT⟩:∃T,bs (upJ ((l.map OutM.p).take k))=T:=⟨_,rfl⟩
   have hr:T.size<=36962304000:=by rw[<-hT,zae];exact J
   have HS:Hid (bs (upJ ((l.map OutM.p).take (k+1)))=T++bs (upO l[k].p)):=hIx (by rw[u,<-ziz,hT]);rw[hT];generalize l[k]=X at *;obtain⟨⟨⟨⟨m,t,r⟩,b⟩,K,who,G,D,n⟩,XA,Xc,h7,h8⟩:=X;dsimp only at *;have c0:=g 0 (by decide) _ rfl;have c1:=g 1 (by decide) _ rfl;have c2:=g 2 (by decide) _ rfl;have c3:=g 3 (by decide) _ rfl;have c4:=g 4 (by decide) _ rfl;have c5:=g 5 (by decide) _ rfl;have c6:=g 6 (by decide) _ rfl;have c7:=g 7 (by decide) _ rfl;have c8:=g 8 (by decide) _ rfl;rw[XI]at c0;dsimp only at c0 c1 c2 c3 c4 c5 c6 c7 c8;obtain⟨bb,hh⟩:∃bb,bs b=bb:=⟨_,rfl⟩
   rw[hh]at c3 L;obtain⟨P,E⟩:∃P,wr.alloc (.cells #[.string m,.string t,.slice XA r.length Xc,.string bb,jA K,jA who,jA G,.slice h7 D.length h8,jA n] 62)=P:=⟨_,rfl⟩
   have h9:wr P:=by rw[<-E];exact WaL
   have U:O9 P wr.heap.size (.string m) (.string t) (.slice XA r.length Xc) (.string bb) (jA K) (jA who) (jA G) (.slice h7 D.length h8) (jA n):=by rw[<-E];exact Qt wr _
   have ⟨⟨k0,k1,k2,k3⟩,k4,k5,k6,k7,k8⟩:=U.nine;have z:=s.trans (h9.mono s.size);have hc:=hIx E
   have a:Hid (∀(W:World) (T2:ByteArray),T2=T++bs (upO ⟨⟨⟨m,t,r⟩,b⟩,K,who,G,D,n⟩)->P W->zyZ l w (.string T2) (jA ((k:Int)+1)) W):=hIx λW T2 h1 h2=>
    ⟨k+1,B,rfl,by rw[HS.out,h1],z.trans (h2.mono z.size)⟩
   have HP:=hIx (zui ⟨⟨⟨m,t,r⟩,b⟩,K,who,G,D,n⟩);have C:=hIx (λhp=>L hp P z);have V:T++bs []=T:=by rw[<-hT,ziz,QE]
   have y:=hIx V;clear E h9 U g s z L u hT J HS V;go_upto_region 5 with fail
   rw[hc.out];clear hc c0 c1 c2 c3 c4 c5 c6 c7 c8
   by_cases he:n=0
   ·subst he
    by_cases N:K=0
    ·subst N
     have HF:=hIx (C.out rfl);clear C;go_wp2_with (go_at_call 36;apply Hid.out);refine WhM HF ?_;rintro e w3 ⟨h3,h0⟩
     rcases h3 with ⟨Z,rfl⟩|⟨Z,rfl⟩
     ·have d:upO ⟨⟨⟨m,t,r⟩,b⟩,0,who,G,D,0⟩=zas (fwdH ⟨m,t,r⟩ b.length)++b:=zwt rfl Z
      have O:=ztl ⟨⟨⟨m,t,r⟩,b⟩,0,who,G,D,0⟩;rw[d]at O a;generalize zas (fwdH ⟨m,t,r⟩ b.length)++b=Y at *;obtain⟨BY,F⟩:∃BY,bs Y=BY:=⟨_,rfl⟩
      have hq:BY.size<=35250:=by rw[<-F,zae];exact O
      rw[F]at a;rw[F];have h4:T.size+BY.size<=9223372036854775807:=by omega
      clear d O F Z HF;go_wp2;exact⟨a.out _ _ rfl h0,by dsimp only[intOf];omega⟩
     ·have d:upO ⟨⟨⟨m,t,r⟩,b⟩,0,who,G,D,0⟩=[]:=zxK rfl Z
      rw[d,y.out]at a;generalize fwdE ⟨m,t,r⟩ b=FE at *;have h4:T.size+(ByteArray.mk #[]).size<=9223372036854775807:=by show T.size+0<=_;omega
      have ho:Hid (T++ByteArray.mk #[]=T):=hIx y.out;clear d Z;go_wp2;exact⟨a.out _ _ ho.out h0,by dsimp only[intOf];omega⟩
    ·have n1:(K==0)=false:=Qb.2 N
     have d:upO ⟨⟨⟨m,t,r⟩,b⟩,K,who,G,D,0⟩=[]:=zpA (by rw[HP.out];dsimp only;rw[n1];rfl);rw[d,y.out]at a;clear N d C HP;go_wp2;exact⟨a.out _ _ rfl (Qj _ _),by dsimp only[intOf];omega⟩
   ·have n0:(n==0)=false:=Qb.2 he
    have d:upO ⟨⟨⟨m,t,r⟩,b⟩,K,who,G,D,n⟩=[]:=zpA (by rw[HP.out];dsimp only;rw[n0];rfl);rw[d,y.out]at a;clear he d C HP;go_wp2;exact⟨a.out _ _ rfl (Qj _ _),by dsimp only[intOf];omega⟩
  ·have d1:decide ((k:Int)<(l.length:Int))=false:=by simp;omega
   have hf:k=l.length:=by omega
   subst hf;rw[h6.out];go_wp2;go_ret;exact⟨rfl,s⟩
theorem zq8:∀l:List zal,(∀f∈l,f.1.size+f.2.size<=1000)->znp l<=l.length*1002:=by
 intro l
 induction l with
 |nil=>intro _;exact Qm _
 |cons x l ih=>
  intro h;have h1:=ih λf a=>h f (by simp[a])
  have h2:=h x (by simp);rw[zgl,Qn,Xq];omega
theorem zj6{h:za3}(a:zh3 h):zgx h.fs:=
 zqd (by have:=a.few;omega) (by have:=zq8 h.fs a.lens;have:=a.few;omega)
theorem zyX{a:RuArg}{j most:Nat}{w W:World}{A:Option Addr}{c base:Nat}{q:ReqV}(hl:RuLies w w.heap.size a)(n:zdb a)(o:j<4294967296)(d:most<=1048576)(g:LibOk w)(e:TabOk w)(hb:w W)
 (i:zh3 q.h) (p:q.b.length<=4096) (k:OwnV W base (.slice A q.h.fs.length c) q.h.fs):RunIn a q.h.m q.h.t (bs q.b) q.h.fs A j most W:=
 ⟨hl.keep hb hb.size,n,OwnV.sl k,λf l=>by have:=i.lens f l;unfold maxLen;omega,by have:=i.few;omega,by have:=i.line;omega,by rw[zae];omega,d,o,g.below hb,e.below hb⟩
structure AllIn(F:ReqV->OutP)(H B:Int)(L:List OutP)(N:Nat)(b:Nat)(d:List OutM)(t:ByteArray)(v:Value)(wr:World):Prop where
 row:OwnG rowO wr b v d
 own:∀x∈d,OutOwn wr b x
 eq:d.map OutM.p++allS F H B t.data.toList=L
 size:d.length+t.size<=N
theorem AllIn.below{F:ReqV->OutP}{H B:Int}{L:List OutP}{N b:Nat}{d:List OutM}{t:ByteArray}{v:Value}{wr W:World}(h:AllIn F H B L N b d t v wr)(hb:wr W):AllIn F H B L N b d t v W:=
 ⟨h.row.below hb,λx a=>(h.own x a).below hb,h.eq,h.size⟩
theorem zld{b:Nat}{d:List OutM}{v:Value}{c w3:World}{x:OutM}(h1:∀y∈d,OutOwn c b y)(i:OutOwn c b x)(a:OwnG rowO c b v d)(e:∀g,g<c.heap.size->v.ownBlock≠some g->w3.heap[g]? = c.heap[g]?):∀y∈d++[x],OutOwn w3 b y:=λy f=>by
 rcases QO.1 f with h|h
 ·exact(h1 y h).past a e
 ·rw[Qy.1 h];exact i.past a e
def zxM(F:ReqV->OutP)(H B:Int)(L:List OutP)(N:Nat)(a:World)(s v:Value)(wr:World):Prop:=∃d t,s=.string t/\AllIn F H B L N a.heap.size d t v wr/\a wr
def zfq(a:RuArg)(H B b:Int)(f:Nat)(s:ByteArray)(w:World)(e:Ending)(w':World):Prop:=
 w w'/\((zbY a.set H B b≠0/\e=jC (.tuple #[jD 0 0,jA (zbY a.set H B b)]))\/(zbY a.set H B b=0/\65536<s.size/\e=jC (.tuple #[jD 0 0,jA 2]))\/
  (zbY a.set H B b=0/\s.size<=65536/\∃(d:List OutM) (A:Option Addr) (c:Nat),e=jC (.tuple #[.slice A d.length c,jA 0])/\OwnG rowO w' w.heap.size (.slice A d.length c) d/\(∀x∈d,OutOwn w' w.heap.size x)/\d.map OutM.p=allS (outJ a.set f b.toNat) H B s.data.toList/\d.length<=65537))
theorem zrB{r:zeG}{H B A:Int}(h:zbY r H B A=0):zbk H B A=true:=by
 unfold zbY at h
 by_cases c:zbf argC r=0
 ·rw[Qe (by omega)]at h
  unfold bndE at h;cases hb:zbk H B A with
  |true=>rfl
  |false=>rw[hb]at h;cases h
 ·rw[Qg c]at h;exact absurd h c
theorem znO{H B A:Int}(h:zbk H B A=true):1<=A/\A<=40:=by
 unfold zbk at h;simp only[QU,QY]at h;exact h.2
theorem zpd(a:RuArg)(H B i:Int)(cl:Nat)(s:ByteArray)(w:World)(h:RuLies w w.heap.size a)(hs:zdb a)(hc:cl<4294967296)(gN:s.size<=4611686018427387904)(X:LibOk w)(hF:TabOk w):
 Calls prog 21 #[a.value,.agg #[jA H,jA B,jA i],.int .u32 (cl:Int),.string s] w (zfq a H B i cl s w):=by
 obtain⟨f,Z⟩:∃f,((w.alloc (.cells #[jA a.most,jA a.status,.slice a.A a.l.length a.c] 24)).alloc (.cells #[jA H,jA B,jA i] 58))=f:=⟨_,rfl⟩
 have gu:f.heap.size=w.heap.size+2:=by rw[<-Z];simp
 have u:w f:=by rw[<-Z];exact WaL.alloc (by simp) _
 have hR:R3' f w.heap.size a.most a.status (.slice a.A a.l.length a.c):=by
  rw[<-Z];exact(Qr _ _ _ (by simp only[Qp];omega)).trans (Qt w _)
 have hB:f.heap[w.heap.size+1]? = some (.cells #[jA H,jA B,jA i] 58 (0,0)):=by
  rw[<-Z];exact zbu _ _ _ (by simp only[Qp])
 have K:Hid (∀W,f W->(W.cell? w.heap.size=some (jA a.most)/\W.cell? ⟨w.heap.size,1,none⟩=some (jA a.status)/\W.cell? ⟨w.heap.size,2,none⟩=some (.slice a.A a.l.length a.c))/\(W.cell? (w.heap.size+1:)=some (jA H)/\W.cell? ⟨w.heap.size+1,1,none⟩=some (jA B)/\W.cell? ⟨w.heap.size+1,2,none⟩=some (jA i))/\w W):=hIx λW hb=>by
  have h1:=(hb.block _ (by omega)).trans hR;have h2:=(hb.block _ (by omega)).trans hB;exact⟨⟨Qf _ _ 0 _ _ _ h1,Qf _ _ 1 _ _ _ h1,Qf _ _ 2 _ _ _ h1⟩,⟨Qf _ _ 0 _ _ _ h2,Qf _ _ 1 _ _ _ h2,Qf _ _ 2 _ _ _ h2⟩,u.trans (hb.mono u.size)⟩
 have gd:Hid (Calls prog 37 #[.agg #[jA a.most,jA a.status,.slice a.A a.l.length a.c],.agg #[jA H,jA B,jA i]] f λe w'=>e=jC (jA (zbY a.set H B i))/\f w'):=hIx (zpX a H B i f (h.keep u u.size) hs (X.below u));have hJ:Hid (zbk H B i=true->∀(t:ByteArray) W,t.size<=65536->f W->Calls prog 22 #[.string t,.agg #[jA H,jA B,jA i]] W (zeZ t.data.toList H B W)):=hIx λo t W ht hb=>zxq t H B i W o (X.below (u.trans (hb.mono u.size))) (by omega)
 have V:Hid (zbk H B i=true->∀(q:ReqV) (A:Option Addr) (c base:Nat) W,zh3 q.h->q.b.length<=4096->OwnV W base (.slice A q.h.fs.length c) q.h.fs->f W->
  Calls prog 39 #[.agg #[jA a.most,jA a.status,.slice a.A a.l.length a.c],.agg #[jA H,jA B,jA i],.int .u32 (cl:Int),.agg #[.string q.h.m,.string q.h.t,.slice A q.h.fs.length c,.string (bs q.b)]] W (zk8 a cl i.toNat q A c W)):=hIx λo q A c base W ho hq hO hb=>by
  have gw:=znO o;have:=zod a H B cl i.toNat q A c W (zyX h hs hc (by omega) X hF (u.trans (hb.mono u.size)) ho hq hO) (by have:=ho.short;unfold maxLen;omega) (zj6 ho);rw[Int.toNat_of_nonneg (by omega)]at this;exact this
 have g7:Hid (zbY a.set H B i=0->zbk H B i=true):=hIx zrB;have gJ:w.heap.size<f.heap.size:=by omega
 have gL:w.heap.size+1<f.heap.size:=by omega
 have ⟨⟨r0,r1,r2⟩,⟨b0,b1,b2⟩,gK⟩:=K.out f (Qj _ _);have gF:=hIx Z;have gl:Hid (∀W,zbY a.set H B i≠0->w W->zfq a H B i cl s w (jC (.tuple #[jD 0 0,jA (zbY a.set H B i)])) W):=hIx λW h1 h2=>⟨h2,.inl ⟨h1,rfl⟩⟩
 have g9:Hid (∀W,zbY a.set H B i=0->65536<s.size->w W->zfq a H B i cl s w (jC (.tuple #[jD 0 0,jA 2])) W):=hIx λW h1 h2 h3=>⟨h3,.inr (.inl ⟨h1,h2,rfl⟩)⟩
 have hK:Hid (zbY a.set H B i=0->s.size<=65536->∀(W:World) (d:List OutM) (A:Option Addr) (c:Nat),OwnG rowO W f.heap.size (.slice A d.length c) d->(∀x∈d,OutOwn W f.heap.size x)->d.map OutM.p=allS (outJ a.set cl i.toNat) H B s.data.toList->d.length<=s.size+1->f W->
  zfq a H B i cl s w (jC (.tuple #[.slice A d.length c,jA 0])) W):=hIx λh0 hU W d A c h1 h2 h3 h4 h5=>
  ⟨(K.out W h5).2.2,.inr (.inr ⟨h0,hU,d,A,c,rfl,h1.low (by omega),λx hx=>(h2 x hx).low (by omega),h3,by omega⟩)⟩
 unfold RuArg.value;generalize zfq a H B i cl s w=P at *;unfold zk8 at V;generalize outJ a.set cl i.toNat=F at *;generalize zbY a.set H B i=J at *;clear Z hR hB h hs gu u X hF hc
 go_in
 go_upto_region 1 with fail
 rw[gF.out];go_wp2_with (go_at_call 37;apply Hid.out);refine WhM gd ?_;rintro e w1 ⟨rfl,g8⟩;have hQ:=(K.out w1 g8).2.2
 by_cases hj:J=0
 rotate_left
 ·have n0:(J != 0)=true:=Q7.2 hj
  have HJ:=hIx hj;clear hj g7 r0 r1 r2 b0 b1 b2;go_wp2;exact gl.out _ HJ.out hQ
 ·subst hj
  have o:=g7.out rfl;have gc:=hIx (hJ.out o);have gt:=hIx (V.out o);obtain⟨⟨gx,_⟩,ga,_⟩:=zlM o;have g0:0<=H:=by omega
  clear gx;clear g7 hJ V gd
  by_cases hy:65536<s.size
  ·have d0:decide ((65536:Int)<(s.size:Int))=true:=by simp;omega
   have gy:=hIx hy;clear hy r0 r1 r2 b0 b1 b2;go_wp2;exact g9.out _ trivial gy.out hQ
  ·have d0:decide ((65536:Int)<(s.size:Int))=false:=by simp;omega
   have hU:s.size<=65536:=by omega
   obtain⟨L,hL⟩:∃L,allS F H B s.data.toList=L:=⟨_,rfl⟩
   have gI:Hid (AllIn F H B L s.size f.heap.size [] s (jD 0 0) w1):=hIx ⟨OwnG.nil _ _ _,λx hx=>(by cases hx),by rw[<-hL];rfl,by simp⟩;have gB:=hIx g8;have hw:=hIx (hK.out rfl hU);rw[hL]at hw;clear hK;clear hy hL g8 o r0 r1 r2 b0 b1 b2;go_wp2
   go_loopw [3,11] (λt v wr=>zxM F H B L s.size f t v wr) (λt _ _=>zwP t)
   case atStart=>exact⟨[],s,rfl,gI.out,gB.out⟩
   case round=>
    obtain⟨d,t,rfl,hI,hd⟩:=hrel;have gP:=hI.size;have HO:=hIx (gc.out t wr (by omega) hd);obtain⟨Ad,cd,rfl,_⟩:=hI.row.form;have ⟨⟨r0,r1,r2⟩,⟨b0,b1,b2⟩,hS⟩:=K.out wr hd;have HI:=hIx hI;have gs:=hIx hd;have g5:=hd.size;clear hI hd;go_wp2_with (go_at_call 22;apply Hid.out);refine WhM HO ?_;rintro e w2 hP
    rcases hP with ⟨x,hx,rfl,Q⟩|⟨q,n,A,c,hx,rfl,gn,Q⟩
    ·unfold zReq
     obtain⟨N,E⟩:∃N,w2.alloc (.cells #[.string (.mk #[]),.string (.mk #[]),jD 0 0,.string (.mk #[])] 29)=N:=⟨_,rfl⟩
     have y:w2 N:=by rw[<-E];exact WaL
     have S:=Q.trans (y.mono Q.size);have O:=HI.out.below S;have C:=hIx (gs.out.trans (S.mono g5));have hi:=hIx E;have D:=hIx O.own;have j:=hIx O.row;have gE:=hIx C.out.size;have T:=O.eq;rw[zon hx]at T;have hT:=zzg hx;clear E y S Q hx O HI r0 r1 r2 b0 b1 b2 hS
     by_cases h7:x=7
     ·subst h7
      rw[Qg rfl,QE]at T;have HF:=hIx (hw.out N d Ad cd j.out D.out T (by omega) C.out);clear T hT hw;go_upto_region 8 with fail
      rw[hi.out];go_wp2;exact HF.out
     ·have n7:(x==7)=false:=Qb.2 h7
      have n0:(x != 0)=true:=Q7.2 hT;rw[Qe h7]at T;have Y:=hIx T;have hA:d.length<=1048576:=by omega
      clear T hT h7;go_upto_region 8 with fail
      rw[hi.out];go_wp2_with (first|(go_at_call 38;refine(zqL _ _).mono ?_;rintro e w4 ⟨rfl,rfl⟩)|(at_builtin;refine zaw rowO rfl (.tmp 38) (.tmp 42) rfl f.heap.size (.slice Ad d.length cd) d rfl j.out gE.out _ (badM (zeY x)) rfl _ rfl 1 rfl hA ?_;intro v' w5 gb gG gz hY;obtain⟨A5,c5,rfl,_⟩:=gb.form));have hu:=hw.out w5 _ A5 c5 gb (zld D.out (zwl _ _ _) j.out gz) (by rw[Q2,<-Y.out];rfl) (by rw[Qa];simp;omega) (C.out.trans gG);rw[Qa]at hu;exact hu
    ·have ho:zh3 q.h:=by
      obtain⟨_,_,_,hp,_⟩:=zwQ g0 hx;exact zdF (zpB hp).2.1
     obtain⟨gA,gM,gH⟩:=znE g0 ga hx;have gg:q.b.length<=4096:=by omega
     have hg:=znG (F:=F) g0 ga hx;have g6:t.data.toList.length=t.size:=by simp
     rw[g6]at gH;unfold reqV;obtain⟨N,E⟩:∃N,w2.alloc (.cells #[.string q.h.m,.string q.h.t,.slice A q.h.fs.length c,.string (bs q.b)] 29)=N:=⟨_,rfl⟩
     have y:w2 N:=by rw[<-E];exact WaL
     have G:N.heap[w2.heap.size]? = some (.cells #[.string q.h.m,.string q.h.t,.slice A q.h.fs.length c,.string (bs q.b)] 29 (0,0)):=by rw[<-E];exact Qt w2 _
     have S:=Q.trans (y.mono Q.size);have C:=hIx (gs.out.trans (S.mono g5));have h6:=(gn.below y).low g5;have gi:=hIx (gt.out q A c _ N ho gg h6 C.out);have O:=HI.out.below S;have ⟨⟨s0,s1,s2⟩,⟨e0,e1,e2⟩,_⟩:=K.out N C.out;have p0:N.cell? w2.heap.size=some (.string q.h.m):=Qf _ _ 0 _ _ _ G;have p1:N.cell? ⟨w2.heap.size,1,none⟩=some (.string q.h.t):=Qf _ _ 1 _ _ _ G;have p2:N.cell? ⟨w2.heap.size,2,none⟩=some (.slice A q.h.fs.length c):=Qf _ _ 2 _ _ _ G;have p3:N.cell? ⟨w2.heap.size,3,none⟩=some (.string (bs q.b)):=Qf _ _ 3 _ _ _ G;have hi:=hIx E;have ge:=hIx h6;have g4:=hIx O;have hW:=C.out.size
     have gC:Hid (t.extract n t.size=bs (t.data.toList.drop n)):=hIx (by
      refine zgO ?_;rw[ZK];exact QF (by rw[QM];omega))
     have gj:Hid ((bs (t.data.toList.drop n)).size=t.size-n):=hIx (by rw[zae,QM,g6]);have U:=hIx hg;clear E y G S Q ho gA gg hg g6 gn h6 O HI r0 r1 r2 b0 b1 b2 hS hx gc HO;go_upto_region 8 with fail
     rw[hi.out];go_wp2_with (go_at_call 39;apply Hid.out);refine WhM gi ?_;rintro e w4 ⟨x,sx,rfl,gf,gk,gh,hE⟩
     have hN:OutOwn w4 f.heap.size x:=⟨by
      rcases gk with rfl|⟨g1,g2,g3,_⟩
      ·exact OwnV.nil _ _
      ·rw[g1,g2,g3];exact ge.out.below hE,gh.low hW⟩
     rw[<-gf]at U
     have Y:Hid ((d++[x]).map OutM.p++(if x.p.err=0 then allS F H B (t.data.toList.drop n)else [])=L):=hIx (by
      rw[<-g4.out.eq,U.out,Q2,QG];rfl)
     have hV:=g4.out.below hE;have gp:=hIx (C.out.trans (hE.mono hW));have gr:=gp.out.size;have hA:d.length<=1048576:=by omega
     clear gf gk gh hE g4 ge gi U s0 s1 s2 e0 e1 e2 p0 p1 p2 p3 hi hW;obtain⟨⟨⟨⟨xm,xt,ha⟩,xb⟩,h8,z,hv,hm,r⟩,XA,Xc,hh,hn⟩:=x;dsimp only at *;obtain⟨bb,o⟩:∃bb,bs xb=bb:=⟨_,rfl⟩
     have hG:=hIx o;rw[o];obtain⟨W5,hC⟩:∃W5,w4.alloc (.cells #[.string xm,.string xt,.slice XA ha.length Xc,.string bb,jA h8,jA z,jA hv,.slice hh hm.length hn,jA r] 62)=W5:=⟨_,rfl⟩
     have I:w4 W5:=by rw[<-hC];exact WaL
     have hz:O9 W5 w4.heap.size (.string xm) (.string xt) (.slice XA ha.length Xc) (.string bb) (jA h8) (jA z) (jA hv) (.slice hh hm.length hn) (jA r):=by rw[<-hC];exact Qt w4 _
     have ⟨⟨k0,k1,k2,k3⟩,k4,k5,k6,k7,k8⟩:=hz.nine;have hX:=hV.below I;have hr:=hN.below I;have D:=hIx hX.own;have j:=hIx hX.row;have HX:=hIx hr;have hY:f.heap.size<=W5.heap.size:=Ql gr I.size;have gq:=hIx (gp.out.trans (I.mono gr));have hH:Hid (w4.heap.size<W5.heap.size/\∀k,(Value.slice Ad d.length cd).ownBlock=some k->k<w4.heap.size):=hIx ⟨zaz hz,λk hk=>(hV.row.lt k hk).2⟩
     have gm:Hid (∀w6:World,(∀g,g<W5.heap.size->(Value.slice Ad d.length cd).ownBlock≠some g->w6.heap[g]? = W5.heap[g]?)->w6.cell? ⟨w4.heap.size,8,none⟩=some (jA r)):=hIx λw6 hk=>by
      have h9:O9 w6 w4.heap.size (.string xm) (.string xt) (.slice XA ha.length Xc) (.string bb) (jA h8) (jA z) (jA hv) (.slice hh hm.length hn) (jA r):=(hk _ hH.out.1 λh=>Nat.lt_irrefl _ (hH.out.2 _ h)).trans hz;exact h9.cell 8
     have gD:=hIx hC;clear hC I hz hV hX hN hr o;go_upto_region 13 with fail
     rw[gD.out]
     by_cases he:r=0
     ·subst he
      rw[Qg rfl]at Y;have gO:(n:Int)<=(t.size:Int):=by omega
      have i0:(0:Int)<=(n:Int):=by omega
      go_wp2_with (at_builtin;refine zaw rowO rfl (.tmp 52) (.tmp 54) rfl f.heap.size (.slice Ad d.length cd) d rfl j.out hY _ (⟨⟨⟨⟨xm,xt,ha⟩,xb⟩,h8,z,hv,hm,0⟩,XA,Xc,hh,hn⟩:OutM) (by rw[<-hG.out];rfl) _ rfl 1 rfl hA ?_;intro v' w6 hD hZ hf gv;have k9:=gm.out w6 hf);rw[gC.out];exact⟨⟨_,_,rfl,⟨hD,zld D.out HX.out j.out hf,by rw[zah];exact Y.out,by rw[gj.out,Qa];simp;omega⟩,gq.out.trans hZ⟩,by simp only[zwP,gj.out];omega⟩
     ·have n0:(r != 0)=true:=Q7.2 he
      rw[Qe he,QE]at Y;clear he;go_wp2_with (at_builtin;refine zaw rowO rfl (.tmp 52) (.tmp 54) rfl f.heap.size (.slice Ad d.length cd) d rfl j.out hY _ (⟨⟨⟨⟨xm,xt,ha⟩,xb⟩,h8,z,hv,hm,r⟩,XA,Xc,hh,hn⟩:OutM) (by rw[<-hG.out];rfl) _ rfl 1 rfl hA ?_;intro v' w6 hD hZ hf gv;have k9:=gm.out w6 hf;obtain⟨A6,c6,rfl,_⟩:=hD.form);have hu:=hw.out w6 _ A6 c6 hD (zld D.out HX.out j.out hf) Y.out (by rw[Qa];simp;omega) (gq.out.trans hZ);rw[Qa]at hu;exact hu
