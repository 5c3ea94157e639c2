/- Lemmas for the last texts. -/
import Derived.Test.YtnnokglddolglaaGreatDoorM43
set_option maxHeartbeats 3200000
set_option maxRecDepth 100000
namespace Go.Proofs.YtnnokglddolglaaGreatDoor
open Go.RowKit Go.Proofs.Tryz
theorem zro(x:Int)(w:World):Calls prog 38 #[.int .i64 x] w λe w'=>e=.returned (.int .i64 (zeq x))/\w'=w:=by
 by_cases b:x=5
 ·subst b
  go_in
  go_wp2;go_ret;exact⟨rfl,rfl⟩
 ·have f:(x==5)=false:=Qb.2 b
  by_cases a:x=6
  ·subst a
   go_in
   go_wp2;go_ret;exact⟨rfl,rfl⟩
  ·have d:(x==6)=false:=Qb.2 a
   have c:Hid (zeq x=400):=by unfold Hid zeq;rw[Qe b,Qe a]
   clear b a
   go_in
   go_wp2;go_ret;exact⟨by rw[c.out];rfl,rfl⟩
noncomputable def zct(r:zd4)(H B A:Int):Int:=if zaZ argC r≠0 then zaZ argC r else bndE H B A
theorem zqt(a:RuArg)(H B A:Int)(w:World)(h:RuLies w w.heap.size a)(y:zcx a)(j:LibOk w):
 Calls prog 37 #[a.value,.agg #[.int .i64 H,.int .i64 B,.int .i64 A]] w λe w'=>e=.returned (.int .i64 (zct a.set H B A))/\Below w.heap.size w w':=by
 obtain⟨b,d⟩:∃b,((w.alloc (.cells #[.int .i64 a.most,.int .i64 a.status,.slice a.A a.l.length a.c] 24)).alloc (.cells #[.int .i64 H,.int .i64 B,.int .i64 A] 58))=b:=⟨_,rfl⟩
 have p:b.heap.size=w.heap.size+2:=by rw[<-d];simp
 have f:Below w.heap.size w b:=by rw[<-d];exact WaL.alloc (by simp) _
 have n:R3' b w.heap.size a.most a.status (.slice a.A a.l.length a.c):=by
  rw[<-d];exact(Qt _ _ _ (by simp only[Qr];omega)).trans (Qp w _)
 have x:b.heap[w.heap.size+1]? = some (.cells #[.int .i64 H,.int .i64 B,.int .i64 A] 58 (0,0)):=by
  rw[<-d];exact zbo _ _ _ (by simp only[Qr])
 have k:w.heap.size+1<b.heap.size:=by omega
 have s:Hid (Calls prog 27 #[.agg #[.int .i64 a.most,.int .i64 a.status,.slice a.A a.l.length a.c]] b (zbm (zaZ argC a.set) b)):=znq a b (h.keep f f.size) y (j.below f);have E:b.cell? ⟨w.heap.size,0,none⟩=some (.int .i64 a.most):=Qf _ _ 0 _ _ _ n;have z:b.cell? ⟨w.heap.size,1,none⟩=some (.int .i64 a.status):=Qf _ _ 1 _ _ _ n;have G:b.cell? ⟨w.heap.size,2,none⟩=some (.slice a.A a.l.length a.c):=Qf _ _ 2 _ _ _ n
 have D:Hid (∀W,Below b.heap.size b W->W.cell? ⟨w.heap.size+1,0,none⟩=some (.int .i64 H)/\W.cell? ⟨w.heap.size+1,1,none⟩=some (.int .i64 B)/\W.cell? ⟨w.heap.size+1,2,none⟩=some (.int .i64 A)/\Below w.heap.size w W):=hIx λW hb=>by
  have r:=(hb.block _ k).trans x;exact⟨Qf _ _ 0 _ _ _ r,Qf _ _ 1 _ _ _ r,Qf _ _ 2 _ _ _ r,f.trans (hb.mono f.size)⟩
 have m:Hid (zct a.set H B A=if zaZ argC a.set≠0 then zaZ argC a.set else bndE H B A):=rfl;generalize zct a.set H B A=J at *;generalize zaZ argC a.set=C at *;have q:=hIx d;unfold RuArg.value;clear d n x h y p f k
 go_in
 go_upto_region 1 with fail
 rw[q.out];go_wp2_with (go_at_call 27;apply Hid.out);refine WhM s ?_;rintro e v ⟨rfl,u⟩;have ⟨I,K,N,g⟩:=D.out v u;clear E z G
 by_cases o:C=0
 ·subst o
  have F:=hIx (zkB H B A v);have i:Hid (J=bndE H B A):=hIx (by rw[m.out,Qe (by decide)]);clear m;go_wp2_with (go_at_call 40;apply Hid.out);refine WhM F ?_;rintro e w2 ⟨rfl,t⟩;go_wp2;go_ret;exact⟨by rw[i.out];rfl,g.trans (t.mono g.size)⟩
 ·have L:(C != 0)=true:=Q6.2 o
  have i:Hid (J=C):=hIx (by rw[m.out,Qi o]);clear o m;go_wp2;go_ret;exact⟨by rw[i.out];rfl,g⟩
def O9(w:World)(g:Nat)(c d e h a i j f b:Value):Prop:=w.heap[g]? = some (.cells #[c,d,e,h,a,i,j,f,b] 62 (0,0))
def putO(w:World)(g:Nat)(c d e h a i j f b:Value):World:=
 ((((((((w.setCell ⟨g,0,none⟩ c).setCell ⟨g,1,none⟩ d).setCell ⟨g,2,none⟩ e).setCell ⟨g,3,none⟩ h).setCell ⟨g,4,none⟩ a).setCell ⟨g,5,none⟩ i).setCell ⟨g,6,none⟩ j).setCell ⟨g,7,none⟩ f).setCell ⟨g,8,none⟩ b
section
variable {w:World} {g:Nat} {a0 a1 a2 a3 a4 a5 a6 a7 a8:Value}
theorem O9.set(h:O9 w g a0 a1 a2 a3 a4 a5 a6 a7 a8)(a b c d e f i j k:Value):O9 (putO w g a b c d e f i j k) g a b c d e f i j k:=by
 unfold putO;obtain⟨p,r⟩:∃x,w.setCell ⟨g,0,none⟩ a=x:=⟨_,rfl⟩
 have C:O9 p g a a1 a2 a3 a4 a5 a6 a7 a8:=by rw[<-r];exact Q2 w g 0 _ _ _ h
 rw[r];obtain⟨m,z⟩:∃x,p.setCell ⟨g,1,none⟩ b=x:=⟨_,rfl⟩
 have h1:O9 m g a b a2 a3 a4 a5 a6 a7 a8:=by rw[<-z];exact Q2 p g 1 _ _ _ C
 rw[z];obtain⟨w2,v⟩:∃x,m.setCell ⟨g,2,none⟩ c=x:=⟨_,rfl⟩
 have h2:O9 w2 g a b c a3 a4 a5 a6 a7 a8:=by rw[<-v];exact Q2 m g 2 _ _ _ h1
 rw[v];obtain⟨w3,A⟩:∃x,w2.setCell ⟨g,3,none⟩ d=x:=⟨_,rfl⟩
 have H:O9 w3 g a b c d a4 a5 a6 a7 a8:=by rw[<-A];exact Q2 w2 g 3 _ _ _ h2
 rw[A];obtain⟨l,B⟩:∃x,w3.setCell ⟨g,4,none⟩ e=x:=⟨_,rfl⟩
 have D:O9 l g a b c d e a5 a6 a7 a8:=by rw[<-B];exact Q2 w3 g 4 _ _ _ H
 rw[B];obtain⟨q,s⟩:∃x,l.setCell ⟨g,5,none⟩ f=x:=⟨_,rfl⟩
 have F:O9 q g a b c d e f a6 a7 a8:=by rw[<-s];exact Q2 l g 5 _ _ _ D
 rw[s];obtain⟨n,u⟩:∃x,q.setCell ⟨g,6,none⟩ i=x:=⟨_,rfl⟩
 have J:O9 n g a b c d e f i a7 a8:=by rw[<-u];exact Q2 q g 6 _ _ _ F
 rw[u];obtain⟨o,t⟩:∃x,n.setCell ⟨g,7,none⟩ j=x:=⟨_,rfl⟩
 have E:O9 o g a b c d e f i j a8:=by rw[<-t];exact Q2 n g 7 _ _ _ J
 rw[t];obtain⟨I,y⟩:∃x,o.setCell ⟨g,8,none⟩ k=x:=⟨_,rfl⟩
 have G:O9 I g a b c d e f i j k:=by rw[<-y];exact Q2 o g 8 _ _ _ E
 rw[y];exact G
theorem O9.cell(h:O9 w g a0 a1 a2 a3 a4 a5 a6 a7 a8)(j:Nat):w.cell? ⟨g,j,none⟩=(#[a0,a1,a2,a3,a4,a5,a6,a7,a8]:Array Value)[j]? := Qf w g j _ _ (0,0) h
theorem O9.free(h:O9 w g a0 a1 a2 a3 a4 a5 a6 a7 a8)(j:Nat):w.frozen? ⟨g,j,none⟩=false:=ZJ _ _ j _ _ h
theorem O9.nine(h:O9 w g a0 a1 a2 a3 a4 a5 a6 a7 a8):(w.cell? ⟨g,0,none⟩=some a0/\w.cell? ⟨g,1,none⟩=some a1/\w.cell? ⟨g,2,none⟩=some a2/\w.cell? ⟨g,3,none⟩=some a3)/\w.cell? ⟨g,4,none⟩=some a4/\w.cell? ⟨g,5,none⟩=some a5/\w.cell? ⟨g,6,none⟩=some a6/\w.cell? ⟨g,7,none⟩=some a7/\w.cell? ⟨g,8,none⟩=some a8:=
 ⟨⟨h.cell 0,h.cell 1,h.cell 2,h.cell 3⟩,h.cell 4,h.cell 5,h.cell 6,h.cell 7,h.cell 8⟩
end
theorem ztA(w:World)(g:Nat)(c d e i a j l f b:Value)(k:Nat)(h:k≠g):(putO w g c d e i a j l f b).heap[k]? = w.heap[k]? := by
 unfold putO;rw[Ql _ _ _ _ h,Ql _ _ _ _ h,Ql _ _ _ _ h,Ql _ _ _ _ h,Ql _ _ _ _ h,Ql _ _ _ _ h,Ql _ _ _ _ h,Ql _ _ _ _ h,Ql _ _ _ _ h]
theorem zq7{B:Nat}{b w:World}(h:Below B b w){g:Nat}(a:B<=g)(e f i k c l m j d:Value):Below B b (putO w g e f i k c l m j d):=
 ((((((((h.setCell (p:=⟨g,0,none⟩) a _).setCell (p:=⟨g,1,none⟩) a _).setCell (p:=⟨g,2,none⟩) a _).setCell (p:=⟨g,3,none⟩) a _).setCell (p:=⟨g,4,none⟩) a _).setCell (p:=⟨g,5,none⟩) a _).setCell (p:=⟨g,6,none⟩) a _).setCell (p:=⟨g,7,none⟩) a _).setCell (p:=⟨g,8,none⟩) a _
theorem RunIn.keep{a:RuArg}{m t b:ByteArray}{d:List zao}{A:Option Addr}{c most:Nat}{w W:World}(h:RunIn a m t b d A c most w)(hb:Below w.heap.size w W):RunIn a m t b d A c most W:=
 ⟨h.lies.keep hb hb.size,h.bulk,(h.f.below hb).more hb.size,h.fz,h.fl,h.tz,h.bz,h.mz,h.cz,h.lib.below hb,h.tab.below hb⟩
theorem zvb{w a w3:World}{g:Nat}{v:Value}{l:List Int}(q:g<a.heap.size)(p:w.heap.size<=g)(hb:Below w.heap.size w w3)(e:OwnG rowZ w3 a.heap.size v l)(j m n d h f i c b:Value):
 OwnG rowZ (putO w3 g j m n d h f i c b) w.heap.size v l/\Below w.heap.size w (putO w3 g j m n d h f i c b):=
 ⟨(e.keep λk o=>ztA _ _ _ _ _ _ _ _ _ _ _ _ (by have:=(e.lt k o).1;omega)).low (by omega),zq7 hb p _ _ _ _ _ _ _ _ _⟩
def zly(a:RuArg)(d most:Nat)(q:ReqV)(A:Option Addr)(c:Nat)(w:World)(e:Ending)(w':World):Prop:=
 ∃(x:OutM) (s:ByteArray),e=.returned (.tuple #[.agg #[.string x.p.q.h.m,.string x.p.q.h.t,.slice x.A x.p.q.h.fs.length x.c,.string (bs x.p.q.b),.int .i64 x.p.st,.int .i64 x.p.who,.int .i64 x.p.sc,.slice x.Am x.p.mt.length x.cm,.int .i64 x.p.err],.string s])/\
  x.p=outJ a.set d most q/\(x=badM 400\/x.A=A/\x.c=c/\x.p.q=q/\x.p.err=0)/\OwnG rowZ w' w.heap.size (.slice x.Am x.p.mt.length x.cm) x.p.mt/\Below w.heap.size w w'
theorem zoK(a:RuArg)(H B:Int)(E most:Nat)(q:ReqV)(A:Option Addr)(c:Nat)(w:World)(h:RunIn a q.h.m q.h.t (bs q.b) q.h.fs A E most w)(hm:q.h.m.size<=maxLen)(o:zgN q.h.fs):
 Calls prog 39 #[a.value,.agg #[.int .i64 H,.int .i64 B,.int .i64 (most:Int)],.int .u32 (E:Int),.agg #[.string q.h.m,.string q.h.t,.slice A q.h.fs.length c,.string (bs q.b)]] w (zly a E most q A c w):=by
 obtain⟨⟨m,t,g⟩,b⟩:=q;dsimp only at *;obtain⟨i,k⟩:∃i,((((w.alloc (.cells #[.int .i64 a.most,.int .i64 a.status,.slice a.A a.l.length a.c] 24)).alloc (.cells #[.int .i64 H,.int .i64 B,.int .i64 (most:Int)] 58)).alloc (.cells #[.string m,.string t,.slice A g.length c,.string (bs b)] 29)).alloc (.cells #[.string (.mk #[]),.string (.mk #[]),.slice none 0 0,.string (.mk #[]),.int .i64 0,.int .i64 0,.int .i64 0,.slice none 0 0,.int .i64 0] 62))=i:=⟨_,rfl⟩
 have hg:i.heap.size=w.heap.size+4:=by rw[<-k];simp
 have x:Below w.heap.size w i:=by rw[<-k];exact((WaL.alloc (by simp) _).alloc (by simp;omega) _).alloc (by simp;omega) _
 have hR:R3' i w.heap.size a.most a.status (.slice a.A a.l.length a.c):=by
  rw[<-k];exact(Qt _ _ _ (by simp only[Qr];omega)).trans ((Qt _ _ _ (by simp only[Qr];omega)).trans ((Qt _ _ _ (by simp only[Qr];omega)).trans (Qp w _)))
 have hB:i.heap[w.heap.size+1]? = some (.cells #[.int .i64 H,.int .i64 B,.int .i64 (most:Int)] 58 (0,0)):=by
  rw[<-k];exact(Qt _ _ _ (by simp only[Qr];omega)).trans ((Qt _ _ _ (by simp only[Qr];omega)).trans (zbo _ _ _ (by simp only[Qr])))
 have Z:i.heap[w.heap.size+1+1]? = some (.cells #[.string m,.string t,.slice A g.length c,.string (bs b)] 29 (0,0)):=by
  rw[<-k];exact(Qt _ _ _ (by simp only[Qr];omega)).trans (zbo _ _ _ (by simp only[Qr]))
 have hO:O9 i (w.heap.size+1+1+1) (.string (.mk #[])) (.string (.mk #[])) (.slice none 0 0) (.string (.mk #[])) (.int .i64 0) (.int .i64 0) (.int .i64 0) (.slice none 0 0) (.int .i64 0):=by
  rw[<-k];exact zbo _ _ _ (by simp only[Qr])
 have F:Hid (∀W,Below i.heap.size i W->W.heap[w.heap.size+1+1]? = some (.cells #[.string m,.string t,.slice A g.length c,.string (bs b)] 29 (0,0))/\O9 W (w.heap.size+1+1+1) (.string (.mk #[])) (.string (.mk #[])) (.slice none 0 0) (.string (.mk #[])) (.int .i64 0) (.int .i64 0) (.int .i64 0) (.slice none 0 0) (.int .i64 0)/\Below w.heap.size w W):=hIx λW hb=>
  ⟨(hb.block _ (by omega)).trans Z,(hb.block _ (by omega)).trans hO,x.trans (hb.mono x.size)⟩
 have Q:Hid (Calls prog 7 #[.agg #[.int .i64 a.most,.int .i64 a.status,.slice a.A a.l.length a.c],.agg #[.string m,.string t,.slice A g.length c,.string (bs b)],.int .u32 (E:Int),.int .i64 (most:Int)] i (zdf (runG a.set m t (bs b) g E most) i)):=hIx (zgG a m t (bs b) g A c E most i (h.keep x));have h5:(bs b).size<=maxLen:=by have:=h.bz;unfold maxLen;omega
 have h0:t.size<=maxLen:=by have:=h.tz;unfold maxLen;omega
 have I:Hid (∀W,Below i.heap.size i W->Calls prog 36 #[.agg #[.string m,.string t,.slice A g.length c,.string (bs b)]] W (zf2 ⟨m,t,g⟩ b W)):=hIx λW hb=>by
  have hk:=h.keep (x.trans (hb.mono x.size));have:=ziX ⟨m,t,g⟩ (bs b) A c W hk.f hm h0 h5 o hk.lib hk.tab;rw[zae]at this;exact this
 have n:Hid (outJ a.set E most ⟨⟨m,t,g⟩,b⟩=if (runG a.set m t (bs b) g E most).1≠0\/fwdE ⟨m,t,g⟩ b≠0 then errO 400 else reqO ⟨⟨m,t,g⟩,b⟩ (runG a.set m t (bs b) g E most).2):=rfl;unfold zly;generalize outJ a.set E most ⟨⟨m,t,g⟩,b⟩=OJ at *;generalize runG a.set m t (bs b) g E most=G at *;obtain⟨FE,h9⟩:∃FE,fwdE ⟨m,t,g⟩ b=FE:=⟨_,rfl⟩
 unfold zf2 at I;rw[h9]at I n;have r0:i.cell? ⟨w.heap.size,0,none⟩=some (.int .i64 a.most):=Qf _ _ 0 _ _ _ hR;have r1:i.cell? ⟨w.heap.size,1,none⟩=some (.int .i64 a.status):=Qf _ _ 1 _ _ _ hR;have r2:i.cell? ⟨w.heap.size,2,none⟩=some (.slice a.A a.l.length a.c):=Qf _ _ 2 _ _ _ hR;have b2:i.cell? ⟨w.heap.size+1,2,none⟩=some (.int .i64 (most:Int)):=Qf _ _ 2 _ _ _ hB;have q0:i.cell? ⟨w.heap.size+1+1,0,none⟩=some (.string m):=Qf _ _ 0 _ _ _ Z;have q1:i.cell? ⟨w.heap.size+1+1,1,none⟩=some (.string t):=Qf _ _ 1 _ _ _ Z;have q2:i.cell? ⟨w.heap.size+1+1,2,none⟩=some (.slice A g.length c):=Qf _ _ 2 _ _ _ Z;have q3:i.cell? ⟨w.heap.size+1+1,3,none⟩=some (.string (bs b)):=Qf _ _ 3 _ _ _ Z;have HZ:Hid (w.heap.size+1+1+1<i.heap.size):=hIx (by omega);have hh:w.heap.size+1+1<i.heap.size:=by omega
 have hd:=hIx k;unfold RuArg.value;clear k hR hB Z hO h9 h hg x hm o h5 h0
 go_in
 go_upto_region 1 with fail
 rw[hd.out];go_wp2_with (go_at_call 7;apply Hid.out);refine WhM Q ?_;rintro e N ⟨mv,rfl,U,Y⟩;obtain⟨s,r,rfl,_⟩:=U.form;obtain⟨j,S⟩:=G;dsimp only at *;unfold verV;have p:Below N.heap.size N (N.alloc (.cells #[.int .i64 S.st,.int .i64 S.who,.int .i64 S.sc,.slice s S.mt.length r] 33)):=WaL;have L:V4 (N.alloc (.cells #[.int .i64 S.st,.int .i64 S.who,.int .i64 S.sc,.slice s S.mt.length r] 33)) N.heap.size S.st S.who S.sc (.slice s S.mt.length r):=Qp N _;obtain⟨K,T⟩:∃K,N.alloc (.cells #[.int .i64 S.st,.int .i64 S.who,.int .i64 S.sc,.slice s S.mt.length r] 33)=K:=⟨_,rfl⟩
 rw[T]at p L;have C:=Y.trans (p.mono Y.size);have ⟨z,_,_⟩:=F.out K C;have HF:=hIx (I.out K C);have he:N.heap.size<K.heap.size:=zaq L;have h8:=U.below p;have p0:K.cell? ⟨w.heap.size+1+1,0,none⟩=some (.string m):=Qf _ _ 0 _ _ _ z;have p1:K.cell? ⟨w.heap.size+1+1,1,none⟩=some (.string t):=Qf _ _ 1 _ _ _ z;have p2:K.cell? ⟨w.heap.size+1+1,2,none⟩=some (.slice A g.length c):=Qf _ _ 2 _ _ _ z;have p3:K.cell? ⟨w.heap.size+1+1,3,none⟩=some (.string (bs b)):=Qf _ _ 3 _ _ _ z;have h7:=hIx T;clear T z r0 r1 r2 b2 q0 q1 q2 q3 Q I U p;go_upto_region 2 with fail
 rw[h7.out];go_wp2_with (go_at_call 36;apply Hid.out);refine WhM HF ?_;rintro e w3 ⟨h3,J⟩
 obtain⟨X,rfl⟩:∃X:ByteArray,e=.returned (.tuple #[.string X,.int .i64 FE]):=by
  rcases h3 with ⟨e1,e2⟩|⟨_,e2⟩
  ·exact⟨_,by rw[e2,e1]⟩
  ·exact⟨_,e2⟩
 have O:=C.trans (J.mono C.size);have ⟨y,d,h4⟩:=F.out w3 O;have ha:=h8.below J;have V:V4 w3 N.heap.size S.st S.who S.sc (.slice s S.mt.length r):=(J.block _ he).trans L;have u:=hIx (λa0 a1 a2 a3 a4 a5 a6 a7 a8=>zvb HZ.out (by omega:w.heap.size<=w.heap.size+1+1+1) h4 ha a0 a1 a2 a3 a4 a5 a6 a7 a8);have P:Hid (∀a0 a1 a2 a3 a4 a5 a6 a7 a8,Below w.heap.size w (putO w3 (w.heap.size+1+1+1) a0 a1 a2 a3 a4 a5 a6 a7 a8)):=hIx λa0 a1 a2 a3 a4 a5 a6 a7 a8=>(u.out a0 a1 a2 a3 a4 a5 a6 a7 a8).2
 have f0:=d.free 0;have f1:=d.free 1;have f2:=d.free 2;have f3:=d.free 3;have f4:=d.free 4;have f5:=d.free 5;have f6:=d.free 6;have f7:=d.free 7;have f8:=d.free 8;have ⟨⟨o0,o1,o2,o3⟩,o4,o5,o6,o7,o8⟩:=d.nine;clear h3 J HF h8 L Y C O hd h7 p0 p1 p2 p3 ha F;have h6:=hIx d
 by_cases D:j≠0\/FE≠0
 ·have ht:=h6.out.set (.string (.mk #[])) (.string (.mk #[])) (.slice none 0 0) (.string (.mk #[])) (.int .i64 0) (.int .i64 0) (.int .i64 0) (.slice none 0 0) (.int .i64 400)
  have HT:=hIx ht.nine;have HJ:Hid (OJ=errO 400):=hIx (by rw[n.out,Qi D])
  have n0:(j != 0)=true\/((j != 0)=false/\(FE != 0)=true):=by
   by_cases h:j=0
   ·exact .inr ⟨by rw[h];rfl,Q6.2 (by omega)⟩
   ·exact .inl (Q6.2 h)
  clear D n ht d V y u
  rcases n0 with n0|⟨n0,n1⟩
  all_goals
   go_wp2;rw[show ((((((((w3.setCell ⟨w.heap.size+1+1+1,0,none⟩ (.string (.mk #[]))).setCell ⟨w.heap.size+1+1+1,1,none⟩ (.string (.mk #[]))).setCell ⟨w.heap.size+1+1+1,2,none⟩ (.slice none 0 0)).setCell ⟨w.heap.size+1+1+1,3,none⟩ (.string (.mk #[]))).setCell ⟨w.heap.size+1+1+1,4,none⟩ (.int .i64 0)).setCell ⟨w.heap.size+1+1+1,5,none⟩ (.int .i64 0)).setCell ⟨w.heap.size+1+1+1,6,none⟩ (.int .i64 0)).setCell ⟨w.heap.size+1+1+1,7,none⟩ (.slice none 0 0)).setCell ⟨w.heap.size+1+1+1,8,none⟩ (.int .i64 400)=putO w3 (w.heap.size+1+1+1) (.string (.mk #[])) (.string (.mk #[])) (.slice none 0 0) (.string (.mk #[])) (.int .i64 0) (.int .i64 0) (.int .i64 0) (.slice none 0 0) (.int .i64 400)from rfl];have ⟨⟨t0,t1,t2,t3⟩,t4,t5,t6,t7,t8⟩:=HT.out;exact Qj (v:=.tuple #[.agg #[.string (.mk #[]),.string (.mk #[]),.slice none 0 0,.string (.mk #[]),.int .i64 0,.int .i64 0,.int .i64 0,.slice none 0 0,.int .i64 400],.string (.mk #[])]) (by simp[results,results39,go_sem,t0,t1,t2,t3,t4,t5,t6,t7,t8]) rfl ⟨badM 400,ByteArray.mk #[],rfl,HJ.out.symm,.inl rfl,OwnG.nil _ _ _,P.out _ _ _ _ _ _ _ _ _⟩
 ·have hc:j=0:=by omega
  have hf:FE=0:=by omega
  subst hc;subst hf
  have ht:=h6.out.set (.string m) (.string t) (.slice A g.length c) (.string (bs b)) (.int .i64 S.st) (.int .i64 S.who) (.int .i64 S.sc) (.slice s S.mt.length r) (.int .i64 0);have HT:=hIx ht.nine;have HJ:Hid (OJ=reqO ⟨⟨m,t,g⟩,b⟩ S):=hIx (by rw[n.out,Qe (by decide)]);have ⟨v0,v1,v2,v3⟩:=V.four;have q0:w3.cell? ⟨w.heap.size+1+1,0,none⟩=some (.string m):=Qf _ _ 0 _ _ _ y;have q1:w3.cell? ⟨w.heap.size+1+1,1,none⟩=some (.string t):=Qf _ _ 1 _ _ _ y;have q2:w3.cell? ⟨w.heap.size+1+1,2,none⟩=some (.slice A g.length c):=Qf _ _ 2 _ _ _ y;have q3:w3.cell? ⟨w.heap.size+1+1,3,none⟩=some (.string (bs b)):=Qf _ _ 3 _ _ _ y;clear D n ht d V y P
  by_cases o:S.st=0
  ·have n0:(S.st != 0)=false:=by rw[o];rfl
   clear o;go_wp2;rw[show ((((((((w3.setCell ⟨w.heap.size+1+1+1,0,none⟩ (.string m)).setCell ⟨w.heap.size+1+1+1,1,none⟩ (.string t)).setCell ⟨w.heap.size+1+1+1,2,none⟩ (.slice A g.length c)).setCell ⟨w.heap.size+1+1+1,3,none⟩ (.string (bs b))).setCell ⟨w.heap.size+1+1+1,4,none⟩ (.int .i64 S.st)).setCell ⟨w.heap.size+1+1+1,5,none⟩ (.int .i64 S.who)).setCell ⟨w.heap.size+1+1+1,6,none⟩ (.int .i64 S.sc)).setCell ⟨w.heap.size+1+1+1,7,none⟩ (.slice s S.mt.length r)).setCell ⟨w.heap.size+1+1+1,8,none⟩ (.int .i64 0)=putO w3 (w.heap.size+1+1+1) (.string m) (.string t) (.slice A g.length c) (.string (bs b)) (.int .i64 S.st) (.int .i64 S.who) (.int .i64 S.sc) (.slice s S.mt.length r) (.int .i64 0)from rfl];have ⟨⟨t0,t1,t2,t3⟩,t4,t5,t6,t7,t8⟩:=HT.out;exact Qj (v:=.tuple #[.agg #[.string m,.string t,.slice A g.length c,.string (bs b),.int .i64 S.st,.int .i64 S.who,.int .i64 S.sc,.slice s S.mt.length r,.int .i64 0],.string X]) (by simp[results,results39,go_sem,t0,t1,t2,t3,t4,t5,t6,t7,t8]) rfl ⟨⟨reqO ⟨⟨m,t,g⟩,b⟩ S,A,c,s,r⟩,X,rfl,HJ.out.symm,.inr ⟨rfl,rfl,rfl,rfl⟩,u.out _ _ _ _ _ _ _ _ _⟩
  ·have n0:(S.st != 0)=true:=Q6.2 o
   clear o;go_wp2;rw[show ((((((((w3.setCell ⟨w.heap.size+1+1+1,0,none⟩ (.string m)).setCell ⟨w.heap.size+1+1+1,1,none⟩ (.string t)).setCell ⟨w.heap.size+1+1+1,2,none⟩ (.slice A g.length c)).setCell ⟨w.heap.size+1+1+1,3,none⟩ (.string (bs b))).setCell ⟨w.heap.size+1+1+1,4,none⟩ (.int .i64 S.st)).setCell ⟨w.heap.size+1+1+1,5,none⟩ (.int .i64 S.who)).setCell ⟨w.heap.size+1+1+1,6,none⟩ (.int .i64 S.sc)).setCell ⟨w.heap.size+1+1+1,7,none⟩ (.slice s S.mt.length r)).setCell ⟨w.heap.size+1+1+1,8,none⟩ (.int .i64 0)=putO w3 (w.heap.size+1+1+1) (.string m) (.string t) (.slice A g.length c) (.string (bs b)) (.int .i64 S.st) (.int .i64 S.who) (.int .i64 S.sc) (.slice s S.mt.length r) (.int .i64 0)from rfl];have ⟨⟨t0,t1,t2,t3⟩,t4,t5,t6,t7,t8⟩:=HT.out;exact Qj (v:=.tuple #[.agg #[.string m,.string t,.slice A g.length c,.string (bs b),.int .i64 S.st,.int .i64 S.who,.int .i64 S.sc,.slice s S.mt.length r,.int .i64 0],.string (.mk #[])]) (by simp[results,results39,go_sem,t0,t1,t2,t3,t4,t5,t6,t7,t8]) rfl ⟨⟨reqO ⟨⟨m,t,g⟩,b⟩ S,A,c,s,r⟩,ByteArray.mk #[],rfl,HJ.out.symm,.inr ⟨rfl,rfl,rfl,rfl⟩,u.out _ _ _ _ _ _ _ _ _⟩
theorem zvl{q:ReqV}(h:fwdE q.h q.b=0):(fwdT q).length<=35250:=by
 have a:=zoX h;have h1:=zkA _ (zek a.out);have h2:=a.len;unfold fwdT;rw[Qa];omega
theorem zys{o:OutP}(h:zce o=true)(a:fwdE o.q.h o.q.b≠0):upO o=[]:=by unfold upO;rw[Qi h,Qe a]
theorem zt4(o:OutP):(upO o).length<=35250:=by
 unfold upO
 split
 ·split
  ·rename_i h;exact zvl h
  ·exact Qm _
 ·exact Qm _
theorem ztF:∀l:List OutP,(upJ l).length<=l.length*35250:=by
 intro l
 induction l with
 |nil=>exact Qm _
 |cons o l ih=>
  rw[zp3,Qa,Qo,Xt];have:=zt4 o;omega
def UpOk(x:OutM):Prop:=zce x.p=true->x.p.q.h.m.size<=maxLen/\x.p.q.h.t.size<=maxLen/\x.p.q.b.length<=maxLen/\zgN x.p.q.h.fs
def zzz(l:List OutM)(w:World)(v i:Value)(wr:World):Prop:=∃k,k<=l.length/\i=.int .i64 (k:Int)/\v=.string (bs (upJ ((l.map OutM.p).take k)))/\Below w.heap.size w wr
theorem zoY(o:OutP):zce o=(o.err==0&&o.st==0):=rfl
theorem zzT(l:List OutM)(A:Option Addr)(c:Nat)(w:World)(h:Sl w w.heap.size 9 A l.length (l.flatMap zel))(ha:∀x∈l,OutIn w w.heap.size x)(U:∀x∈l,UpOk x)(hl:l.length<=1048576)(I:LibOk w)(H:TabOk w):
 Calls prog 19 #[.slice A l.length c] w λe w'=>e=.returned (.string (bs (upJ (l.map OutM.p))))/\Below w.heap.size w w':=by
 have h5:Hid (∀k,k<=l.length->(upJ ((l.map OutM.p).take k)).length<=36962304000):=hIx λk o=>by
  have:=ztF ((l.map OutM.p).take k);rw[Qz,Qh,Xb o]at this;omega
 have S:Hid (∀k (o:k<l.length),upJ ((l.map OutM.p).take (k+1))=upJ ((l.map OutM.p).take k)++upO l[k].p):=hIx λk o=>by
  rw[Qq (by rw[Qh];exact o),zvV,Zd]
 have hj:Hid (∀W,Below w.heap.size w W->∀k (o:k<l.length),∃b O,A=some ⟨b,O,none⟩/\b<w.heap.size/\∀j,j<9->∀v,(zel l[k])[j]? = some v->W.cell? ⟨b,O+k*9+j,none⟩=some v):=hIx λW hb k o=>zxA (h.below hb) k o
 have hd:Hid (∀k (o:k<l.length),zce l[k].p=true->∀W,Below w.heap.size w W->Calls prog 36 #[.agg #[.string l[k].p.q.h.m,.string l[k].p.q.h.t,.slice l[k].A l[k].p.q.h.fs.length l[k].c,.string (bs l[k].p.q.b)]] W (zf2 l[k].p.q.h l[k].p.q.b W)):=hIx λk o hp W hb=>by
  obtain⟨hm,ht,hg,hn⟩:=U _ (Qy o) hp;have hi:=(ha _ (Qy o)).keep hb hb.size;have:=ziX l[k].p.q.h (bs l[k].p.q.b) l[k].A l[k].c W hi.f hm ht (by rw[zaj];exact hg) hn (I.below hb) (H.below hb);rw[zae]at this;exact this
 have h6:Hid (upJ ((l.map OutM.p).take l.length)=upJ (l.map OutM.p)):=hIx (by rw[QC (by rw[Qh];omega)]);clear h ha U I H
 go_in
 go_wp2
 go_loopw [3,10] (λv i wr=>zzz l w v i wr) (λ_ i _=>l.length-(intOf i).toNat)
 case atStart=>exact⟨0,Qm _,rfl,rfl,Qg _ _⟩
 case round=>
  obtain⟨k,o,rfl,rfl,s⟩:=hrel;have J:=h5.out k o
  by_cases B:k<l.length
  ·have d1:decide ((k:Int)<(l.length:Int))=true:=by simp;omega
   have i7:IntKind.i64.wrap ((k:Int)+1)=(k:Int)+1:=Qx _ (by omega);obtain⟨b',O,rfl,_,g⟩:=hj.out wr s k B;have L:=hd.out k B;have u:=S.out k B;obtain⟨T,hT⟩:∃T,bs (upJ ((l.map OutM.p).take k))=T:=⟨_,rfl⟩
   have hr:T.size<=36962304000:=by rw[<-hT,zaj];exact J
   have HS:Hid (bs (upJ ((l.map OutM.p).take (k+1)))=T++bs (upO l[k].p)):=hIx (by rw[u,<-zou,hT]);rw[hT];generalize l[k]=X at *;obtain⟨⟨⟨⟨m,t,r⟩,b⟩,K,who,G,D,n⟩,XA,Xc,h7,h8⟩:=X;dsimp only at *;have c0:=g 0 (by decide) _ rfl;have c1:=g 1 (by decide) _ rfl;have c2:=g 2 (by decide) _ rfl;have c3:=g 3 (by decide) _ rfl;have c4:=g 4 (by decide) _ rfl;have c5:=g 5 (by decide) _ rfl;have c6:=g 6 (by decide) _ rfl;have c7:=g 7 (by decide) _ rfl;have c8:=g 8 (by decide) _ rfl;rw[Xj]at c0;dsimp only at c0 c1 c2 c3 c4 c5 c6 c7 c8;obtain⟨bb,hh⟩:∃bb,bs b=bb:=⟨_,rfl⟩
   rw[hh]at c3 L;obtain⟨Q,E⟩:∃Q,wr.alloc (.cells #[.string m,.string t,.slice XA r.length Xc,.string bb,.int .i64 K,.int .i64 who,.int .i64 G,.slice h7 D.length h8,.int .i64 n] 62)=Q:=⟨_,rfl⟩
   have h9:Below wr.heap.size wr Q:=by rw[<-E];exact WaL
   have V:O9 Q wr.heap.size (.string m) (.string t) (.slice XA r.length Xc) (.string bb) (.int .i64 K) (.int .i64 who) (.int .i64 G) (.slice h7 D.length h8) (.int .i64 n):=by rw[<-E];exact Qp wr _
   have ⟨⟨k0,k1,k2,k3⟩,k4,k5,k6,k7,k8⟩:=V.nine;have z:=s.trans (h9.mono s.size);have hc:=hIx E
   have a:Hid (∀(W:World) (T2:ByteArray),T2=T++bs (upO ⟨⟨⟨m,t,r⟩,b⟩,K,who,G,D,n⟩)->Below Q.heap.size Q W->zzz l w (.string T2) (.int .i64 ((k:Int)+1)) W):=hIx λW T2 h1 h2=>
    ⟨k+1,B,rfl,by rw[HS.out,h1],z.trans (h2.mono z.size)⟩
   have HP:=hIx (zoY ⟨⟨⟨m,t,r⟩,b⟩,K,who,G,D,n⟩);have C:=hIx (λhp=>L hp Q z);have Z:T++bs []=T:=by rw[<-hT,zou,QI]
   have y:=hIx Z;clear E h9 V g s z L u hT J HS Z;go_upto_region 5 with fail
   rw[hc.out];clear hc c0 c1 c2 c3 c4 c5 c6 c7 c8
   by_cases he:n=0
   ·subst he
    by_cases N:K=0
    ·subst N
     have HF:=hIx (C.out rfl);clear C;go_wp2_with (go_at_call 36;apply Hid.out);refine WhM HF ?_;rintro e w3 ⟨h3,h0⟩
     rcases h3 with ⟨e1,rfl⟩|⟨e1,rfl⟩
     ·have d:upO ⟨⟨⟨m,t,r⟩,b⟩,0,who,G,D,0⟩=zaT (fwdH ⟨m,t,r⟩ b.length)++b:=zp7 rfl e1
      have P:=zt4 ⟨⟨⟨m,t,r⟩,b⟩,0,who,G,D,0⟩;rw[d]at P a;generalize zaT (fwdH ⟨m,t,r⟩ b.length)++b=Y at *;obtain⟨BY,F⟩:∃BY,bs Y=BY:=⟨_,rfl⟩
      have hq:BY.size<=35250:=by rw[<-F,zaj];exact P
      rw[F]at a;rw[F];have h4:T.size+BY.size<=9223372036854775807:=by omega
      clear d P F e1 HF;go_wp2;exact⟨a.out _ _ rfl h0,by dsimp only[intOf];omega⟩
     ·have d:upO ⟨⟨⟨m,t,r⟩,b⟩,0,who,G,D,0⟩=[]:=zys rfl e1
      rw[d,y.out]at a;generalize fwdE ⟨m,t,r⟩ b=FE at *;have h4:T.size+(ByteArray.mk #[]).size<=9223372036854775807:=by show T.size+0<=_;omega
      have ho:Hid (T++ByteArray.mk #[]=T):=hIx y.out;clear d e1;go_wp2;exact⟨a.out _ _ ho.out h0,by dsimp only[intOf];omega⟩
    ·have n1:(K==0)=false:=Qb.2 N
     have d:upO ⟨⟨⟨m,t,r⟩,b⟩,K,who,G,D,0⟩=[]:=zlR (by rw[HP.out];dsimp only;rw[n1];rfl);rw[d,y.out]at a;clear N d C HP;go_wp2;exact⟨a.out _ _ rfl (Qg _ _),by dsimp only[intOf];omega⟩
   ·have n0:(n==0)=false:=Qb.2 he
    have d:upO ⟨⟨⟨m,t,r⟩,b⟩,K,who,G,D,n⟩=[]:=zlR (by rw[HP.out];dsimp only;rw[n0];rfl);rw[d,y.out]at a;clear he d C HP;go_wp2;exact⟨a.out _ _ rfl (Qg _ _),by dsimp only[intOf];omega⟩
  ·have d1:decide ((k:Int)<(l.length:Int))=false:=by simp;omega
   have hf:k=l.length:=by omega
   subst hf;rw[h6.out];go_wp2;go_ret;exact⟨rfl,s⟩
theorem zrM:∀l:List zao,(∀f∈l,f.1.size+f.2.size<=1000)->zjv l<=l.length*1002:=by
 intro l
 induction l with
 |nil=>intro _;exact Qm _
 |cons x l ih=>
  intro h;have h1:=ih λf a=>h f (by simp[a])
  have h2:=h x (by simp);rw[zeL,Qo,Xt];omega
theorem zkt{h:zbh}(a:zih h):zgN h.fs:=
 zj6 (by have:=a.few;omega) (by have:=zrM h.fs a.lens;have:=a.few;omega)
theorem zzx{a:RuArg}{j most:Nat}{w W:World}{A:Option Addr}{c base:Nat}{q:ReqV}(hl:RuLies w w.heap.size a)(n:zcx a)(o:j<4294967296)(d:most<=1048576)(g:LibOk w)(e:TabOk w)(hb:Below w.heap.size w W)
 (i:zih q.h) (p:q.b.length<=4096) (k:OwnV W base (.slice A q.h.fs.length c) q.h.fs):RunIn a q.h.m q.h.t (bs q.b) q.h.fs A j most W:=
 ⟨hl.keep hb hb.size,n,OwnV.sl k,λf l=>by have:=i.lens f l;unfold maxLen;omega,by have:=i.few;omega,by have:=i.line;omega,by rw[zaj];omega,d,o,g.below hb,e.below hb⟩
structure AllIn(F:ReqV->OutP)(H B:Int)(L:List OutP)(N:Nat)(b:Nat)(d:List OutM)(t:ByteArray)(v:Value)(wr:World):Prop where
 row:OwnG rowO wr b v d
 own:∀x∈d,OutOwn wr b x
 eq:d.map OutM.p++allS F H B t.data.toList=L
 size:d.length+t.size<=N
theorem AllIn.below{F:ReqV->OutP}{H B:Int}{L:List OutP}{N b:Nat}{d:List OutM}{t:ByteArray}{v:Value}{wr W:World}(h:AllIn F H B L N b d t v wr)(hb:Below wr.heap.size wr W):AllIn F H B L N b d t v W:=
 ⟨h.row.below hb,λx a=>(h.own x a).below hb,h.eq,h.size⟩
theorem zlF{b:Nat}{d:List OutM}{v:Value}{c w3:World}{x:OutM}(h1:∀y∈d,OutOwn c b y)(i:OutOwn c b x)(a:OwnG rowO c b v d)(e:∀g,g<c.heap.size->v.ownBlock≠some g->w3.heap[g]? = c.heap[g]?):∀y∈d++[x],OutOwn w3 b y:=λy f=>by
 rcases QN.1 f with h|h
 ·exact(h1 y h).past a e
 ·rw[QE.1 h];exact i.past a e
def zyu(F:ReqV->OutP)(H B:Int)(L:List OutP)(N:Nat)(a:World)(s v:Value)(wr:World):Prop:=∃d t,s=.string t/\AllIn F H B L N a.heap.size d t v wr/\Below a.heap.size a wr
def zdP(a:RuArg)(H B b:Int)(f:Nat)(s:ByteArray)(w:World)(e:Ending)(w':World):Prop:=
 Below w.heap.size w w'/\((zct a.set H B b≠0/\e=.returned (.tuple #[.slice none 0 0,.int .i64 (zct a.set H B b)]))\/(zct a.set H B b=0/\65536<s.size/\e=.returned (.tuple #[.slice none 0 0,.int .i64 2]))\/
  (zct a.set H B b=0/\s.size<=65536/\∃(d:List OutM) (A:Option Addr) (c:Nat),e=.returned (.tuple #[.slice A d.length c,.int .i64 0])/\OwnG rowO w' w.heap.size (.slice A d.length c) d/\(∀x∈d,OutOwn w' w.heap.size x)/\d.map OutM.p=allS (outJ a.set f b.toNat) H B s.data.toList/\d.length<=65537))
theorem zsj{r:zd4}{H B A:Int}(h:zct r H B A=0):zbl H B A=true:=by
 unfold zct at h
 by_cases c:zaZ argC r=0
 ·rw[Qe (by omega)]at h
  unfold bndE at h;cases hb:zbl H B A with
  |true=>rfl
  |false=>rw[hb]at h;cases h
 ·rw[Qi c]at h;exact absurd h c
theorem zom{H B A:Int}(h:zbl H B A=true):1<=A/\A<=40:=by
 unfold zbl at h;simp only[QW,QY]at h;exact h.2
theorem zwP(a:RuArg)(H B i:Int)(cl:Nat)(s:ByteArray)(w:World)(h:RuLies w w.heap.size a)(hs:zcx a)(hc:cl<4294967296)(gN:s.size<=4611686018427387904)(X:LibOk w)(hF:TabOk w):
 Calls prog 21 #[a.value,.agg #[.int .i64 H,.int .i64 B,.int .i64 i],.int .u32 (cl:Int),.string s] w (zdP a H B i cl s w):=by
 obtain⟨f,Z⟩:∃f,((w.alloc (.cells #[.int .i64 a.most,.int .i64 a.status,.slice a.A a.l.length a.c] 24)).alloc (.cells #[.int .i64 H,.int .i64 B,.int .i64 i] 58))=f:=⟨_,rfl⟩
 have gu:f.heap.size=w.heap.size+2:=by rw[<-Z];simp
 have u:Below w.heap.size w f:=by rw[<-Z];exact WaL.alloc (by simp) _
 have hR:R3' f w.heap.size a.most a.status (.slice a.A a.l.length a.c):=by
  rw[<-Z];exact(Qt _ _ _ (by simp only[Qr];omega)).trans (Qp w _)
 have hB:f.heap[w.heap.size+1]? = some (.cells #[.int .i64 H,.int .i64 B,.int .i64 i] 58 (0,0)):=by
  rw[<-Z];exact zbo _ _ _ (by simp only[Qr])
 have K:Hid (∀W,Below f.heap.size f W->(W.cell? ⟨w.heap.size,0,none⟩=some (.int .i64 a.most)/\W.cell? ⟨w.heap.size,1,none⟩=some (.int .i64 a.status)/\W.cell? ⟨w.heap.size,2,none⟩=some (.slice a.A a.l.length a.c))/\(W.cell? ⟨w.heap.size+1,0,none⟩=some (.int .i64 H)/\W.cell? ⟨w.heap.size+1,1,none⟩=some (.int .i64 B)/\W.cell? ⟨w.heap.size+1,2,none⟩=some (.int .i64 i))/\Below w.heap.size w W):=hIx λW hb=>by
  have h1:=(hb.block _ (by omega)).trans hR;have h2:=(hb.block _ (by omega)).trans hB;exact⟨⟨Qf _ _ 0 _ _ _ h1,Qf _ _ 1 _ _ _ h1,Qf _ _ 2 _ _ _ h1⟩,⟨Qf _ _ 0 _ _ _ h2,Qf _ _ 1 _ _ _ h2,Qf _ _ 2 _ _ _ h2⟩,u.trans (hb.mono u.size)⟩
 have gd:Hid (Calls prog 37 #[.agg #[.int .i64 a.most,.int .i64 a.status,.slice a.A a.l.length a.c],.agg #[.int .i64 H,.int .i64 B,.int .i64 i]] f λe w'=>e=.returned (.int .i64 (zct a.set H B i))/\Below f.heap.size f w'):=hIx (zqt a H B i f (h.keep u u.size) hs (X.below u));have hJ:Hid (zbl H B i=true->∀(t:ByteArray) W,t.size<=65536->Below f.heap.size f W->Calls prog 22 #[.string t,.agg #[.int .i64 H,.int .i64 B,.int .i64 i]] W (zdS t.data.toList H B W)):=hIx λo t W ht hb=>zsO t H B i W o (X.below (u.trans (hb.mono u.size))) (by omega)
 have V:Hid (zbl H B i=true->∀(q:ReqV) (A:Option Addr) (c base:Nat) W,zih q.h->q.b.length<=4096->OwnV W base (.slice A q.h.fs.length c) q.h.fs->Below f.heap.size f W->
  Calls prog 39 #[.agg #[.int .i64 a.most,.int .i64 a.status,.slice a.A a.l.length a.c],.agg #[.int .i64 H,.int .i64 B,.int .i64 i],.int .u32 (cl:Int),.agg #[.string q.h.m,.string q.h.t,.slice A q.h.fs.length c,.string (bs q.b)]] W (zly a cl i.toNat q A c W)):=hIx λo q A c base W ho hq hO hb=>by
  have gw:=zom o;have:=zoK a H B cl i.toNat q A c W (zzx h hs hc (by omega) X hF (u.trans (hb.mono u.size)) ho hq hO) (by have:=ho.short;unfold maxLen;omega) (zkt ho);rw[Z5 (by omega)]at this;exact this
 have g7:Hid (zct a.set H B i=0->zbl H B i=true):=hIx zsj;have gJ:w.heap.size<f.heap.size:=by omega
 have gL:w.heap.size+1<f.heap.size:=by omega
 have ⟨⟨r0,r1,r2⟩,⟨b0,b1,b2⟩,gK⟩:=K.out f (Qg _ _);have gF:=hIx Z;have gl:Hid (∀W,zct a.set H B i≠0->Below w.heap.size w W->zdP a H B i cl s w (.returned (.tuple #[.slice none 0 0,.int .i64 (zct a.set H B i)])) W):=hIx λW h1 h2=>⟨h2,.inl ⟨h1,rfl⟩⟩
 have g9:Hid (∀W,zct a.set H B i=0->65536<s.size->Below w.heap.size w W->zdP a H B i cl s w (.returned (.tuple #[.slice none 0 0,.int .i64 2])) W):=hIx λW h1 h2 h3=>⟨h3,.inr (.inl ⟨h1,h2,rfl⟩)⟩
 have hK:Hid (zct a.set H B i=0->s.size<=65536->∀(W:World) (d:List OutM) (A:Option Addr) (c:Nat),OwnG rowO W f.heap.size (.slice A d.length c) d->(∀x∈d,OutOwn W f.heap.size x)->d.map OutM.p=allS (outJ a.set cl i.toNat) H B s.data.toList->d.length<=s.size+1->Below f.heap.size f W->
  zdP a H B i cl s w (.returned (.tuple #[.slice A d.length c,.int .i64 0])) W):=hIx λh0 hU W d A c h1 h2 h3 h4 h5=>
  ⟨(K.out W h5).2.2,.inr (.inr ⟨h0,hU,d,A,c,rfl,h1.low (by omega),λx hx=>(h2 x hx).low (by omega),h3,by omega⟩)⟩
 unfold RuArg.value;generalize zdP a H B i cl s w=P at *;unfold zly at V;generalize outJ a.set cl i.toNat=F at *;generalize zct a.set H B i=J at *;clear Z hR hB h hs gu u X hF hc
 go_in
 go_upto_region 1 with fail
 rw[gF.out];go_wp2_with (go_at_call 37;apply Hid.out);refine WhM gd ?_;rintro e w1 ⟨rfl,g8⟩;have hQ:=(K.out w1 g8).2.2
 by_cases hj:J=0
 rotate_left
 ·have n0:(J != 0)=true:=Q6.2 hj
  have HJ:=hIx hj;clear hj g7 r0 r1 r2 b0 b1 b2;go_wp2;exact gl.out _ HJ.out hQ
 ·subst hj
  have o:=g7.out rfl;have gc:=hIx (hJ.out o);have gt:=hIx (V.out o);obtain⟨⟨gx,_⟩,ga,_⟩:=zmg o;have g0:0<=H:=by omega
  clear gx;clear g7 hJ V gd
  by_cases hy:65536<s.size
  ·have d0:decide ((65536:Int)<(s.size:Int))=true:=by simp;omega
   have gy:=hIx hy;clear hy r0 r1 r2 b0 b1 b2;go_wp2;exact g9.out _ trivial gy.out hQ
  ·have d0:decide ((65536:Int)<(s.size:Int))=false:=by simp;omega
   have hU:s.size<=65536:=by omega
   obtain⟨L,hL⟩:∃L,allS F H B s.data.toList=L:=⟨_,rfl⟩
   have gI:Hid (AllIn F H B L s.size f.heap.size [] s (.slice none 0 0) w1):=hIx ⟨OwnG.nil _ _ _,λx hx=>(by cases hx),by rw[<-hL];rfl,by simp⟩;have gB:=hIx g8;have hw:=hIx (hK.out rfl hU);rw[hL]at hw;clear hK;clear hy hL g8 o r0 r1 r2 b0 b1 b2;go_wp2
   go_loopw [3,11] (λt v wr=>zyu F H B L s.size f t v wr) (λt _ _=>zpt t)
   case atStart=>exact⟨[],s,rfl,gI.out,gB.out⟩
   case round=>
    obtain⟨d,t,rfl,hI,hd⟩:=hrel;have gP:=hI.size;have HO:=hIx (gc.out t wr (by omega) hd);obtain⟨Ad,cd,rfl,_⟩:=hI.row.form;have ⟨⟨r0,r1,r2⟩,⟨b0,b1,b2⟩,hS⟩:=K.out wr hd;have HI:=hIx hI;have gs:=hIx hd;have g5:=hd.size;clear hI hd;go_wp2_with (go_at_call 22;apply Hid.out);refine WhM HO ?_;rintro e w2 hP
    rcases hP with ⟨x,hx,rfl,Q⟩|⟨q,n,A,c,hx,rfl,gn,Q⟩
    ·unfold zReq
     obtain⟨N,E⟩:∃N,w2.alloc (.cells #[.string (.mk #[]),.string (.mk #[]),.slice none 0 0,.string (.mk #[])] 29)=N:=⟨_,rfl⟩
     have y:Below w2.heap.size w2 N:=by rw[<-E];exact WaL
     have S:=Q.trans (y.mono Q.size);have O:=HI.out.below S;have C:=hIx (gs.out.trans (S.mono g5));have hi:=hIx E;have D:=hIx O.own;have j:=hIx O.row;have gE:=hIx C.out.size;have T:=O.eq;rw[zuY hx]at T;have hT:=zzP hx;clear E y S Q hx O HI r0 r1 r2 b0 b1 b2 hS
     by_cases h7:x=7
     ·subst h7
      rw[Qi rfl,QI]at T;have HF:=hIx (hw.out N d Ad cd j.out D.out T (by omega) C.out);clear T hT hw;go_upto_region 8 with fail
      rw[hi.out];go_wp2;exact HF.out
     ·have n7:(x==7)=false:=Qb.2 h7
      have n0:(x != 0)=true:=Q6.2 hT;rw[Qe h7]at T;have Y:=hIx T;have hA:d.length<=1048576:=by omega
      clear T hT h7;go_upto_region 8 with fail
      rw[hi.out];go_wp2_with (first|(go_at_call 38;refine(zro _ _).mono ?_;rintro e w4 ⟨rfl,rfl⟩)|(at_builtin;refine zax rowO rfl (.tmp 38) (.tmp 42) rfl f.heap.size (.slice Ad d.length cd) d rfl j.out gE.out _ (badM (zeq x)) rfl _ rfl 1 rfl hA ?_;intro v' w5 gb gG gz hY;obtain⟨A5,c5,rfl,_⟩:=gb.form));have hu:=hw.out w5 _ A5 c5 gb (zlF D.out (zw8 _ _ _) j.out gz) (by rw[QU,<-Y.out];rfl) (by rw[Qa];simp;omega) (C.out.trans gG);rw[Qa]at hu;exact hu
    ·have ho:zih q.h:=by
      obtain⟨_,_,_,hp,_⟩:=zxB g0 hx;exact zek (zp8 hp).2.1
     obtain⟨gA,gM,gH⟩:=zoe g0 ga hx;have gg:q.b.length<=4096:=by omega
     have hg:=zyz (F:=F) g0 ga hx;have g6:t.data.toList.length=t.size:=by simp
     rw[g6]at gH;unfold reqV;obtain⟨N,E⟩:∃N,w2.alloc (.cells #[.string q.h.m,.string q.h.t,.slice A q.h.fs.length c,.string (bs q.b)] 29)=N:=⟨_,rfl⟩
     have y:Below w2.heap.size w2 N:=by rw[<-E];exact WaL
     have G:N.heap[w2.heap.size]? = some (.cells #[.string q.h.m,.string q.h.t,.slice A q.h.fs.length c,.string (bs q.b)] 29 (0,0)):=by rw[<-E];exact Qp w2 _
     have S:=Q.trans (y.mono Q.size);have C:=hIx (gs.out.trans (S.mono g5));have h6:=(gn.below y).low g5;have gi:=hIx (gt.out q A c _ N ho gg h6 C.out);have O:=HI.out.below S;have ⟨⟨s0,s1,s2⟩,⟨e0,e1,e2⟩,_⟩:=K.out N C.out;have p0:N.cell? ⟨w2.heap.size,0,none⟩=some (.string q.h.m):=Qf _ _ 0 _ _ _ G;have p1:N.cell? ⟨w2.heap.size,1,none⟩=some (.string q.h.t):=Qf _ _ 1 _ _ _ G;have p2:N.cell? ⟨w2.heap.size,2,none⟩=some (.slice A q.h.fs.length c):=Qf _ _ 2 _ _ _ G;have p3:N.cell? ⟨w2.heap.size,3,none⟩=some (.string (bs q.b)):=Qf _ _ 3 _ _ _ G;have hi:=hIx E;have ge:=hIx h6;have g4:=hIx O;have hW:=C.out.size
     have gC:Hid (t.extract n t.size=bs (t.data.toList.drop n)):=hIx (by
      refine zg5 ?_;rw[ZG];exact QC (by rw[QF];omega))
     have gj:Hid ((bs (t.data.toList.drop n)).size=t.size-n):=hIx (by rw[zaj,QF,g6]);have U:=hIx hg;clear E y G S Q ho gA gg hg g6 gn h6 O HI r0 r1 r2 b0 b1 b2 hS hx gc HO;go_upto_region 8 with fail
     rw[hi.out];go_wp2_with (go_at_call 39;apply Hid.out);refine WhM gi ?_;rintro e w4 ⟨x,sx,rfl,gf,gk,gh,hE⟩
     have hN:OutOwn w4 f.heap.size x:=⟨by
      rcases gk with rfl|⟨g1,g2,g3,_⟩
      ·exact OwnV.nil _ _
      ·rw[g1,g2,g3];exact ge.out.below hE,gh.low hW⟩
     rw[<-gf]at U
     have Y:Hid ((d++[x]).map OutM.p++(if x.p.err=0 then allS F H B (t.data.toList.drop n)else [])=L):=hIx (by
      rw[<-g4.out.eq,U.out,QU,QH];rfl)
     have hV:=g4.out.below hE;have gp:=hIx (C.out.trans (hE.mono hW));have gr:=gp.out.size;have hA:d.length<=1048576:=by omega
     clear gf gk gh hE g4 ge gi U s0 s1 s2 e0 e1 e2 p0 p1 p2 p3 hi hW;obtain⟨⟨⟨⟨xm,xt,ha⟩,xb⟩,h8,z,hv,hm,r⟩,XA,Xc,hh,hn⟩:=x;dsimp only at *;obtain⟨bb,o⟩:∃bb,bs xb=bb:=⟨_,rfl⟩
     have hG:=hIx o;rw[o];obtain⟨W5,hC⟩:∃W5,w4.alloc (.cells #[.string xm,.string xt,.slice XA ha.length Xc,.string bb,.int .i64 h8,.int .i64 z,.int .i64 hv,.slice hh hm.length hn,.int .i64 r] 62)=W5:=⟨_,rfl⟩
     have I:Below w4.heap.size w4 W5:=by rw[<-hC];exact WaL
     have hz:O9 W5 w4.heap.size (.string xm) (.string xt) (.slice XA ha.length Xc) (.string bb) (.int .i64 h8) (.int .i64 z) (.int .i64 hv) (.slice hh hm.length hn) (.int .i64 r):=by rw[<-hC];exact Qp w4 _
     have ⟨⟨k0,k1,k2,k3⟩,k4,k5,k6,k7,k8⟩:=hz.nine;have hX:=hV.below I;have hr:=hN.below I;have D:=hIx hX.own;have j:=hIx hX.row;have HX:=hIx hr;have hY:f.heap.size<=W5.heap.size:=Qn gr I.size;have gq:=hIx (gp.out.trans (I.mono gr));have hH:Hid (w4.heap.size<W5.heap.size/\∀k,(Value.slice Ad d.length cd).ownBlock=some k->k<w4.heap.size):=hIx ⟨zaq hz,λk hk=>(hV.row.lt k hk).2⟩
     have gm:Hid (∀w6:World,(∀g,g<W5.heap.size->(Value.slice Ad d.length cd).ownBlock≠some g->w6.heap[g]? = W5.heap[g]?)->w6.cell? ⟨w4.heap.size,8,none⟩=some (.int .i64 r)):=hIx λw6 hk=>by
      have h9:O9 w6 w4.heap.size (.string xm) (.string xt) (.slice XA ha.length Xc) (.string bb) (.int .i64 h8) (.int .i64 z) (.int .i64 hv) (.slice hh hm.length hn) (.int .i64 r):=(hk _ hH.out.1 λh=>Nat.lt_irrefl _ (hH.out.2 _ h)).trans hz;exact h9.cell 8
     have gD:=hIx hC;clear hC I hz hV hX hN hr o;go_upto_region 13 with fail
     rw[gD.out]
     by_cases he:r=0
     ·subst he
      rw[Qi rfl]at Y;have gO:(n:Int)<=(t.size:Int):=by omega
      have i0:(0:Int)<=(n:Int):=by omega
      go_wp2_with (at_builtin;refine zax rowO rfl (.tmp 52) (.tmp 54) rfl f.heap.size (.slice Ad d.length cd) d rfl j.out hY _ (⟨⟨⟨⟨xm,xt,ha⟩,xb⟩,h8,z,hv,hm,0⟩,XA,Xc,hh,hn⟩:OutM) (by rw[<-hG.out];rfl) _ rfl 1 rfl hA ?_;intro v' w6 hD hZ hf gv;have k9:=gm.out w6 hf);rw[gC.out];exact⟨⟨_,_,rfl,⟨hD,zlF D.out HX.out j.out hf,by rw[zae];exact Y.out,by rw[gj.out,Qa];simp;omega⟩,gq.out.trans hZ⟩,by simp only[zpt,gj.out];omega⟩
     ·have n0:(r != 0)=true:=Q6.2 he
      rw[Qe he,QI]at Y;clear he;go_wp2_with (at_builtin;refine zax rowO rfl (.tmp 52) (.tmp 54) rfl f.heap.size (.slice Ad d.length cd) d rfl j.out hY _ (⟨⟨⟨⟨xm,xt,ha⟩,xb⟩,h8,z,hv,hm,r⟩,XA,Xc,hh,hn⟩:OutM) (by rw[<-hG.out];rfl) _ rfl 1 rfl hA ?_;intro v' w6 hD hZ hf gv;have k9:=gm.out w6 hf;obtain⟨A6,c6,rfl,_⟩:=hD.form);have hu:=hw.out w6 _ A6 c6 hD (zlF D.out HX.out j.out hf) Y.out (by rw[Qa];simp;omega) (gq.out.trans hZ);rw[Qa]at hu;exact hu
