/- Lemmas for the last texts. -/
import Derived.Test.YtfhaojhofiocaaaGreatDoorM27
set_option maxHeartbeats 3200000
set_option maxRecDepth 100000
namespace Go.Proofs.YtfhaojhofiocaaaGreatDoor
open Go.RowKit Go.Proofs.Tryz
theorem cat3{a b:ByteArray}{n k:Nat}(c:a.size<=n)(hb:b.size<=k)(h:n+k<=9223372036854775807):∃X,a++b=X/\X.size<=n+k/\∀W,(Op.stringOp .add a b).run prog W=.ok (.string X) W:=
 ⟨_,rfl,by rw[Zi];omega,λW=>ZU W a b (by omega)⟩
theorem zoZ(n:Nat)(h:n<100000):(bs (Lib.decDigits n)).size<=5:=by rw[zah];exact(ze8 4 n h).2
theorem zp4(s:Nat)(b D1 c dn a:ByteArray)(d:jE)(h1:bs (Lib.decDigits s)=D1)(h2:bs (Lib.decDigits b.size)=c)(f:bs d=dn)(e:bs (znO s)=a):
 bs (d++zpl s b.data.toList)=dn++(ByteArray.mk #[72,84,84,80,47,49,46,49,32]++D1++ByteArray.mk #[32]++a++ByteArray.mk #[13,10,67,111,110,116,101,110,116,45,76,101,110,103,116,104,58,32]++c++ByteArray.mk #[13,10,13,10]++b):=by
 subst h1;subst h2;subst f;subst e
 unfold zpl;have hl:b.data.toList.length=b.size:=by simp
 rw[hl,Q9,<-zbq,<-zbq,<-zbq,<-zbq,<-zbq,<-zbq,<-zbq,<-zbq,zeT]
 rfl
theorem zcS{g L:Nat}{k:ConK}{m:ConM}{w:World}(h:Con w g L k m)(s:Nat)(hs:s<1000)(b:ByteArray)(hb:b.size<=4096)(hd:m.s.down.length<=4000000000000000000):
 Calls prog 22 #[.pointer g,jA (s:Int),.string b] w (zlL g L k (zc3 m.s s b.data.toList) (.tuple #[]) w):=by
 have A:Hid (∀W,w W->∀n:Nat,n<100000->Calls prog 31 #[jA (n:Int)] W λe w'=>e=jC (.string (bs (Lib.decDigits n)))/\W w'):=hIx λW f n hn=>
  zfI n W (by omega) (h.e.env W (f.mono (QZ h.box.lt))).2
 obtain⟨D1,h1⟩:∃x,bs (Lib.decDigits s)=x:=⟨_,rfl⟩
 obtain⟨Q,h2⟩:∃x,bs (Lib.decDigits b.size)=x:=⟨_,rfl⟩
 obtain⟨dn,u⟩:∃x,bs m.s.down=x:=⟨_,rfl⟩
 obtain⟨v,B⟩:∃x,bs (znO s)=x:=⟨_,rfl⟩
 have HX:=hIx (zp4 s b D1 Q dn v m.s.down h1 h2 u B);have U:D1.size<=5:=by rw[<-h1];exact zoZ s (by omega)
 have s2:Q.size<=5:=by rw[<-h2];exact zoZ b.size (by omega)
 have Y:dn.size<=4000000000000000000:=by rw[<-u];exact hd
 have q:=hIx (λW f=>A.out W f s (by omega));have r:=hIx (λW f=>A.out W f b.size (by omega));rw[h1]at q;rw[h2]at r;have z:=h.box.cells;have H:=h.box.free;unfold zaO at z;rw[u]at z
 have o:Hid (∀W (X:ByteArray),X=bs (m.s.down++zpl s b.data.toList)->w W->zlL g L k (zc3 m.s s b.data.toList) (.tuple #[]) w (jC (.tuple #[])) (W.setCell ⟨g,22,none⟩ (.string X))):=hIx λW X hX f=>
  h.puts f [(22,.string X)] {m with s:=zc3 m.s s b.data.toList} (have t:=h.t.below f;⟨t.wt,t.wo,t.log,t.ld,t.own,t.few⟩) (by rw[hX];rfl) _
 have l:w.cell? ⟨g,22,none⟩=some (.string dn):=z 22
 have T:(decide ((400:Int)<=(s:Int))=true/\v=ByteArray.mk #[110,111])\/(decide ((400:Int)<=(s:Int))=false/\v=ByteArray.mk #[111,107]):=by
  rw[<-B]
  by_cases c:(400:Int)<=(s:Int)
  ·exact .inl ⟨Qx c,by unfold znO;rw[Qj c];rfl⟩
  ·exact .inr ⟨Qt c,by unfold znO;rw[Qf c];rfl⟩
 have O:v.size<=2:=by rcases T with ⟨_,rfl⟩|⟨_,rfl⟩ <;> decide
 have y:=HX.out;obtain⟨X1,C,P,y1⟩:=cat3 (show (ByteArray.mk #[72,84,84,80,47,49,46,49,32]).size<=9 by decide) U (by decide);obtain⟨X2,S,z2,y2⟩:=cat3 P (show (ByteArray.mk #[32]).size<=1 by decide) (by decide);obtain⟨X3,e3,I,y3⟩:=cat3 z2 O (by decide);obtain⟨X4,Z,z4,y4⟩:=cat3 I (show (ByteArray.mk #[13,10,67,111,110,116,101,110,116,45,76,101,110,103,116,104,58,32]).size<=18 by decide) (by decide);obtain⟨X5,N,F,y5⟩:=cat3 z4 s2 (by decide);obtain⟨X6,G,z6,y6⟩:=cat3 F (show (ByteArray.mk #[13,10,13,10]).size<=4 by decide) (by decide);obtain⟨X7,E,D,y7⟩:=cat3 z6 hb (by decide);obtain⟨X8,e8,_,y8⟩:=cat3 Y D (by decide);rw[C,S,e3,Z,N,G,E,e8]at y;have K:=hIx (λW=>o.out W X8 y.symm);clear h1 h2 u B A h hd HX o C S e3 Z N G E e8 P z2 I z4 F z6 D U s2 Y O y hs hb;generalize zc3 m.s s b.data.toList=S' at *
 rcases T with ⟨d0,rfl⟩|⟨d0,rfl⟩
 all_goals
  go_in
  go_wp2_with fail
  go_region_with
   (first
    |(go_at_call 31;(with_reducible refine(q.out _ ?_).mono ?_);(first|exact Qi _ _|exact(Qi _ _).drew|exact d|exact d.drew);rintro e V ⟨rfl,i⟩;have a:w V:=(by first|exact i|exact undrew i|exact d.trans (i.mono d.size)|exact d.trans ((undrew i).mono d.size));have h0:V.cell? ⟨g,22,none⟩=some (.string dn):=zaa a l;have h6:=zaw a l (H 22))
    |(go_at_call 31;(with_reducible refine(r.out _ ?_).mono ?_);(first|exact Qi _ _|exact(Qi _ _).drew|exact a|exact a.drew);rintro e J ⟨rfl,j⟩;have d:w J:=(by first|exact j|exact undrew j|exact a.trans (j.mono a.size)|exact a.trans ((undrew j).mono a.size));have h5:J.cell? ⟨g,22,none⟩=some (.string dn):=zaa d l;have h7:=zaw d l (H 22)))
  all_goals
   go_end0
   first|exact K.out _ d|exact K.out _ a
def zvI:List (Nat × Value):=[(12,.string (.mk #[])),(13,.string (.mk #[])),(14,jD 0 0),(15,.string (.mk #[])),(16,jA 0),(17,jA 0),(18,jA 0),(19,jD 0 0),(20,jA 0)]
theorem zkb{g L:Nat}{k:ConK}{m:ConM}{w:World}(h:Con w g L k m):Calls prog 19 #[.pointer g] w (zlL g L k (endC m.s) (.tuple #[]) w):=by
 have c:=h.box.cells;have d:=h.box.free;have a:=h.puts (Qi _ _) ((10,jA 2)::(11,.string (.mk #[]))::zvI) {m with s:=endC m.s,w:=badM 0} ⟨rfl,zla _ _ _,h.t.log,h.t.ld,h.t.own,Qn _⟩ (by kernel_rfl) (.tuple #[]);unfold zaO at c;simp only[zcI,zvI]at a;have b:=hIx a;clear h a
 go_in
 go_wp2_with fail
 go_end0
 exact b.out
theorem ztW{g L:Nat}{k:ConK}{m:ConM}{w:World}(h:Con w g L k m):Calls prog 30 #[.pointer g] w (zlL g L k (zns m.s) (.tuple #[]) w):=by
 have c:=h.box.cells;have d:=h.box.free;have a:=h.puts (Qi _ _) ((10,jA 0)::(9,jA 0)::zvI) {m with s:=zns m.s,w:=badM 0} ⟨rfl,zla _ _ _,h.t.log,h.t.ld,h.t.own,h.t.few⟩ (by kernel_rfl) (.tuple #[]);unfold zaO at c;simp only[zcI,zvI]at a;have b:=hIx a;clear h a
 go_in
 go_wp2_with fail
 go_end0
 exact b.out
def zbK(x:OutM):Array Value:=#[.string x.p.q.h.m,.string x.p.q.h.t,.slice x.A x.p.q.h.fs.length x.c,.string (bs x.p.q.b),jA x.p.st,jA x.p.who,jA x.p.sc,.slice x.Am x.p.mt.length x.cm,jA x.p.err]
theorem zAq{W:World}{g:Nat}{t:TypeId}{b:RC}{a:List Value}(d:W.heap.size=g)(c:zkz b=a):Sl (W.alloc (.cells a.toArray t)) (g+1) 6 (some ⟨g,0,none⟩) 1 ([b].flatMap zqS.cells):=
 Sl.lit d (Zu _) (by rw[QV,XC,QO];exact c.symm) rfl
theorem zmA{g L:Nat}{k:ConK}{m:ConM}{w:World}(h:Con w g L k m)(x:OutM)(hx:OwnG rowZ w L (.slice x.Am x.p.mt.length x.cm) x.p.mt)(D:Int)(hl:m.s.log.length<=999999999999):
 Calls prog 29 #[.pointer g,.agg (zbK x),jA D] w (MPost g L k (zhv k.num m.s x.p D) (.tuple #[]) w):=by
 obtain⟨d,l⟩:∃d,(w.alloc (.cells (zbK x) 58)).alloc (.cells #[jA x.p.st,jA x.p.who,jA x.p.sc,.slice x.Am x.p.mt.length x.cm] 56)=d:=⟨_,rfl⟩
 have c:w d:=by rw[<-l];exact WaL.alloc (by simp) _
 have q1:d.heap[w.heap.size]? = some (.cells (zbK x) 58 (0,0)):=by rw[<-l];exact(Qs _ _ _ (by simp)).trans (Qv w _)
 have q2:d.heap[w.heap.size+1]? = some (.cells #[jA x.p.st,jA x.p.who,jA x.p.sc,.slice x.Am x.p.mt.length x.cm] 56 (0,0)):=by rw[<-l];exact zbb _ _ _ (by simp)
 obtain⟨h2,S⟩:=h.below c;have N:=h.e.gL;have H:=h2.e.le;have h6:m.ld.length<=999999999999:=by have:=Zm List.length h.t.ld;rw[Qk]at this;omega
 have HB:Hid (∀W,d W->OwnG zqS W L m.lv m.ld/\L<=W.heap.size):=hIx λW hb=>⟨h2.t.log.below hb,Ql H hb.size⟩
 obtain⟨G,z⟩:∃G:RC,G=⟨recC k.num x.p D,x.Am,x.cm⟩:=⟨_,rfl⟩
 have B:zkz G=[jA k.num,jA D,jA x.p.who,jA x.p.sc,.slice x.Am x.p.mt.length x.cm,.string x.p.q.h.t]:=by rw[z];rfl
 have C:Hid (∀X W v',d X->OwnG zqS W L v' (m.ld++[G])->Below L X W->(∀i,i<X.heap.size->m.lv.ownBlock≠some i->W.heap[i]? = X.heap[i]?)->
  W.frozen? ⟨g,23,none⟩=false/\(∃u,W.cell? ⟨g,23,none⟩=some u)/\MPost g L k (zhv k.num m.s x.p D) (.tuple #[]) w (jC (.tuple #[])) (W.setCell ⟨g,23,none⟩ v')):=hIx λX W v' r hO hb V=>by
  obtain⟨n,h4⟩:=h2.below r;have Q:Fr g L X W:=⟨hb.mono (by omega),λj hj _=>hb.block j hj⟩
  have o:CAt W g k m:=(hb.block g N).trans n.box;have Z:OwnG rowZ X L (.slice x.Am x.p.mt.length x.cm) x.p.mt:=(hx.below c).below r;refine⟨o.free 23,⟨_,o.cells 23⟩,?_⟩
  exact Con.store (n.e.fr Q) o ((S.trans h4).trans Q) [(23,v')] {m with s:=zhv k.num m.s x.p D,lv:=v',ld:=m.ld++[G]}
   ⟨n.t.wt,⟨zch n.t.wo.f n.t.log (by decide) V,zch n.t.wo.mt n.t.log (by decide) V⟩,hO,by rw[Q2,n.t.ld,z];rfl,λy P=>by
    rcases QY.1 P with P|P
    ·exact zch (n.t.own y P) n.t.log (by decide) V
    ·rw[QF.1 P,z]
     exact zch Z n.t.log (by decide) V,n.t.few⟩ (by kernel_rfl) _
 have Y:=h2.box.cells;have d1:=zak q1;have U:=zak q2;unfold zaO at Y;unfold zbK at d1 l;have h5:=hIx l;have HR:=hIx B;unfold zbK;clear h h2 S hx c q1 q2 hl z l B N H;generalize zhv k.num m.s x.p D=S' at *
 go_in
 go_upto_region 2 with fail
 rw[h5.out]
 have HS:Hid (∀W,Below d.drew.heap.size d.drew W->W.cell? ⟨g,23,none⟩=some m.lv/\W.cell? ⟨g,6,none⟩=some (jA k.num)/\W.cell? ⟨w.heap.size,1,none⟩=some (.string x.p.q.h.t)/\W.cell? ⟨w.heap.size+1,1,none⟩=some (jA x.p.who)/\W.cell? ⟨w.heap.size+1,2,none⟩=some (jA x.p.sc)/\W.cell? ⟨w.heap.size+1,3,none⟩=some (.slice x.Am x.p.mt.length x.cm)):=hIx λW hb=>by
  have c:d W:=undrew hb;exact⟨zaa c (Y 23),zaa c (Y 6),zaa c (d1 1),zaa c (U 1),zaa c (U 2),zaa c (U 3)⟩
 have I:Hid (∀W,Below d.drew.heap.size d.drew W->OwnG zqS W L m.lv m.ld/\L<=W.heap.size):=hIx λW hb=>HB.out W (undrew hb)
 have F:=hIx (λX W v' (r:Below d.drew.heap.size d.drew X)=>C.out X W v' (undrew r));clear Y d1 U HB C;generalize T:d.drew=W3 at *;have h0:=HS.out W3 (Qi _ _);refine zcm 22 (λW=>W.cell? ⟨g,23,none⟩=some m.lv/\W.cell? ⟨g,6,none⟩=some (jA k.num)/\W.cell? ⟨w.heap.size,1,none⟩=some (.string x.p.q.h.t)/\W.cell? ⟨w.heap.size+1,1,none⟩=some (jA x.p.who)/\W.cell? ⟨w.heap.size+1,2,none⟩=some (jA x.p.sc)/\W.cell? ⟨w.heap.size+1,3,none⟩=some (.slice x.Am x.p.mt.length x.cm)) (by kernel_rfl) (by rw[T];exact h0) ?_;rw[T];intro b;refine zab (i:=0) (v:=?v0) (some 9) rfl rfl (by kernel_rfl) (by kernel_rfl) (by kernel_rfl) (by decide) (λ_ _ _ h=>h) (by rfl) ?hy0 (by assumption) ?rest0
 case hy0=>(intro w;go_simp;try rfl)
 intro b
 (try simp only[Act.put,Qa,Qg,Qh])
 refine zab (i:=1) (v:=?v1) (some 10) rfl rfl (by kernel_rfl) (by kernel_rfl) (by kernel_rfl) (by decide) (λ_ _ _ h=>h) (by rfl) ?hy1 (by assumption) ?rest1
 case hy1=>(intro w;go_simp;try rfl)
 intro b
 (try simp only[Act.put,Qa,Qg,Qh])
 refine zab (i:=2) (v:=?v2) (some 11) rfl rfl (by kernel_rfl) (by kernel_rfl) (by kernel_rfl) (by decide) (λ_ _ _ h=>h) (by rfl) ?hy2 (by assumption) ?rest2
 case hy2=>(intro w;go_simp;try rfl)
 intro b
 (try simp only[Act.put,Qa,Qg,Qh])
 refine zab (i:=3) (v:=?v3) (some 12) rfl rfl (by kernel_rfl) (by kernel_rfl) (by kernel_rfl) (by decide) (λ_ _ _ h=>h) (by rfl) ?hy3 (by assumption) ?rest3
 case hy3=>(intro w;go_simp;try rfl)
 intro b
 (try simp only[Act.put,Qa,Qg,Qh])
 refine zaq (i:=4) (v:=?v4) [22] (some 13) rfl rfl (by kernel_rfl) (by kernel_rfl) (by kernel_rfl) (by decide) (by kernel_rfl) (by decide) (by kernel_rfl) (λ_ _ _ h=>h) (by rfl) ?hy4 (by assumption) ?rest4
 case hy4=>(intro w a;(try dsimp only at a);go_simp;try rfl)
 intro b
 (try simp only[Act.put,Qa,Qg,Qh])
 refine zab (i:=5) (v:=?v5) (some 14) rfl rfl (by kernel_rfl) (by kernel_rfl) (by kernel_rfl) (by decide) (λ_ _ _ h=>h) (by rfl) ?hy5 (by assumption) ?rest5
 case hy5=>(intro w;go_simp;try rfl)
 intro b
 (try simp only[Act.put,Qa,Qg,Qh])
 refine zab (i:=6) (v:=?v6) (some 15) rfl rfl (by kernel_rfl) (by kernel_rfl) (by kernel_rfl) (by decide) (λ_ _ _ h=>h) (by rfl) ?hy6 (by assumption) ?rest6
 case hy6=>(intro w;go_simp;try rfl)
 intro b
 (try simp only[Act.put,Qa,Qg,Qh])
 refine zab (i:=7) (v:=?v7) (some 16) rfl rfl (by kernel_rfl) (by kernel_rfl) (by kernel_rfl) (by decide) (λ_ _ _ h=>h) (by rfl) ?hy7 (by assumption) ?rest7
 case hy7=>(intro w;go_simp;try rfl)
 intro b
 (try simp only[Act.put,Qa,Qg,Qh])
 refine zaq (i:=8) (v:=?v8) [20,21,22] (some 17) rfl rfl (by kernel_rfl) (by kernel_rfl) (by kernel_rfl) (by decide) (by kernel_rfl) (by decide) (by kernel_rfl) (λ_ _ _ h=>h) (by rfl) ?hy8 (by assumption) ?rest8
 case hy8=>(intro w a;(try dsimp only at a);go_simp;try rfl)
 intro b
 (try simp only[Act.put,Qa,Qg,Qh])
 refine zab (i:=9) (v:=?v9) (some 18) rfl rfl (by kernel_rfl) (by kernel_rfl) (by kernel_rfl) (by decide) (λ_ _ _ h=>h) (by rfl) ?hy9 (by assumption) ?rest9
 case hy9=>(intro w;go_simp;try rfl)
 intro b
 (try simp only[Act.put,Qa,Qg,Qh])
 refine zab (i:=10) (v:=?v10) (some 19) rfl rfl (by kernel_rfl) (by kernel_rfl) (by kernel_rfl) (by decide) (λ_ _ _ h=>h) (by rfl) ?hy10 (by assumption) ?rest10
 case hy10=>(intro w;go_simp;try rfl)
 intro b
 (try simp only[Act.put,Qa,Qg,Qh])
 refine zaq (i:=11) (v:=?v11) [20,21,22] (some 20) rfl rfl (by kernel_rfl) (by kernel_rfl) (by kernel_rfl) (by decide) (by kernel_rfl) (by decide) (by kernel_rfl) (λ_ _ _ h=>h) (by rfl) ?hy11 (by assumption) ?rest11
 case hy11=>(intro w a;(try dsimp only at a);go_simp;try rfl)
 intro b
 (try simp only[Act.put,Qa,Qg,Qh])
 refine zab (i:=12) (v:=?v12) (some 21) rfl rfl (by kernel_rfl) (by kernel_rfl) (by kernel_rfl) (by decide) (λ_ _ _ h=>h) (by rfl) ?hy12 (by assumption) ?rest12
 case hy12=>(intro w;go_simp;try rfl)
 intro b
 (try simp only[Act.put,Qa,Qg,Qh])
 refine zaq (i:=13) (v:=?v13) [20,21,22] (some 22) rfl rfl (by kernel_rfl) (by kernel_rfl) (by kernel_rfl) (by decide) (by kernel_rfl) (by decide) (by kernel_rfl) (λ_ _ _ h=>h) (by rfl) ?hy13 (by assumption) ?rest13
 case hy13=>(intro w a;(try dsimp only at a);go_simp;try rfl)
 intro b
 (try simp only[Act.put,Qa,Qg,Qh])
 refine zab (i:=14) (v:=?v14) (some 23) rfl rfl (by kernel_rfl) (by kernel_rfl) (by kernel_rfl) (by decide) (λ_ _ _ h=>h) (by rfl) ?hy14 (by assumption) ?rest14
 case hy14=>(intro w;go_simp;try rfl)
 intro b
 (try simp only[Act.put,Qa,Qg,Qh])
 refine zaq (i:=15) (v:=?v15) [20,21,22] (some 24) rfl rfl (by kernel_rfl) (by kernel_rfl) (by kernel_rfl) (by decide) (by kernel_rfl) (by decide) (by kernel_rfl) (λ_ _ _ h=>h) (by rfl) ?hy15 (by assumption) ?rest15
 case hy15=>(intro w a;(try dsimp only at a);go_simp;try rfl)
 intro b
 (try simp only[Act.put,Qa,Qg,Qh])
 refine zab (i:=16) (v:=?v16) (some 25) rfl rfl (by kernel_rfl) (by kernel_rfl) (by kernel_rfl) (by decide) (λ_ _ _ h=>h) (by rfl) ?hy16 (by assumption) ?rest16
 case hy16=>(intro w;go_simp;try rfl)
 intro b
 (try simp only[Act.put,Qa,Qg,Qh])
 refine zab (i:=17) (v:=?v17) (some 26) rfl rfl (by kernel_rfl) (by kernel_rfl) (by kernel_rfl) (by decide) (λ_ _ _ h=>h) (by rfl) ?hy17 (by assumption) ?rest17
 case hy17=>(intro w;go_simp;try rfl)
 intro b
 (try simp only[Act.put,Qa,Qg,Qh])
 refine zab (i:=18) (v:=?v18) (some 27) rfl rfl (by kernel_rfl) (by kernel_rfl) (by kernel_rfl) (by decide) (λ_ _ _ h=>h) (by rfl) ?hy18 (by assumption) ?rest18
 case hy18=>(intro w;go_simp;try rfl)
 intro b
 (try simp only[Act.put,Qa,Qg,Qh])
 refine zaq (i:=19) (v:=?v19) [20,21,22] (some 28) rfl rfl (by kernel_rfl) (by kernel_rfl) (by kernel_rfl) (by decide) (by kernel_rfl) (by decide) (by kernel_rfl) (λ_ _ _ h=>h) (by rfl) ?hy19 (by assumption) ?rest19
 case hy19=>(intro w a;(try dsimp only at a);go_simp;try rfl)
 intro b
 (try simp only[Act.put,Qa,Qg,Qh])
 refine zab (i:=20) (v:=?v20) (some 29) rfl rfl (by kernel_rfl) (by kernel_rfl) (by kernel_rfl) (by decide) (λ_ _ _ h=>h) (by rfl) ?hy20 (by assumption) ?rest20
 case hy20=>(intro w;go_simp;try rfl)
 intro b
 (try simp only[Act.put,Qa,Qg,Qh])
 refine zdq (i:=21) (some 30) (.buildSlice 40 1 #[(0,.tmp 29)]) (by kernel_rfl) rfl rfl rfl (by rfl) ?_;intro K A
 go_simp
 refine A.out _ _ (HS.out _ WaL) λb=>?_
 (try simp only[Act.put,Qa,Qg,Qh])
 refine zaj (i:=22) (some 31) (.call {callee:=.builtin .append,args:=#[.tmp 13,.tmp 30],argTypes:=#[40,40]}) (by kernel_rfl) rfl rfl rfl (by rfl) (by kernel_rfl) ?_;intro K A;refine zfU zqS (.tmp 13) (.tmp 30) rfl L m.lv m.ld rfl (I.out _ WaL).1 (I.out _ WaL).2 (some ⟨W3.heap.size,0,none⟩) 1 1 [G] rfl rfl (W3.heap.size+1) (zAq rfl HR.out) (by show m.ld.length+1<=_;omega) ?_;intro v' w5 E O J h3;obtain⟨A5,k5,rfl,_⟩:=E.form;obtain⟨f5,⟨u5,c5⟩,he⟩:=F.out _ w5 _ WaL E O J;have HE:=hIx he;clear he E O J h3;refine A.out _ _ ?_
 (try simp only[Act.put,Qa,Qg,Qh])
 refine zaj (i:=23) (some 32) (.nilCheck (.tmp 9)) (by kernel_rfl) rfl rfl rfl (by rfl) (by kernel_rfl) ?_;intro K A
 go_simp
 refine A.out _ _ ?_
 (try simp only[Act.put,Qa,Qg,Qh])
 refine zaj (i:=24) (some 33) (.fieldAddr 60 (.tmp 32) 11) (by kernel_rfl) rfl rfl rfl (by rfl) (by kernel_rfl) ?_;intro K A
 go_simp
 refine A.out _ _ ?_
 (try simp only[Act.put,Qa,Qg,Qh])
 refine zaj (i:=25) none (.store 40 (.tmp 33) (.tmp 31)) (by kernel_rfl) rfl rfl rfl (by rfl) (by kernel_rfl) ?_;intro K A
 go_simp
 refine A.out _ _ ?_;refine zcl (by kernel_rfl) ?_ _;go_wp2_with fail;have hE:=HE.out;rw[Qb]at hE
 go_end0
 exact hE
def zkY(F:ReqV->OutP)(q:ReqV)(w:World)(e:Ending)(w':World):Prop:=
 ∃x:OutM,e=jC (.tuple #[.agg (zbK x),.string (bs (upO x.p)),jA 0])/\x.p=F q/\OutOwn w' w.heap.size x/\w w'
theorem ziU{w w':World}{v:Value}{b n size g:Nat}{e t:TypeId}{f:List Value}{cs:Array Value}(h:w.ownsRow b e size v n f)(q:w.heap[g]? = some (.cells cs t (0,0)))(a:e≠t)(k:∀j,j≠g->w'.heap[j]? = w.heap[j]?):w'.ownsRow b e size v n f:=
 ⟨h.1,by
  rcases h.2 with i|⟨d,cap,c,h1,h2,o,l⟩
  ·exact .inl i
  ·exact .inr ⟨d,cap,c,h1,h2,(k d λm=>zbl h q a (by rw[h1,m];rfl)).trans o,l⟩⟩
theorem zuv(a:RuArg)(H B:Int)(v most:Nat)(q:ReqV)(A:Option Addr)(c:Nat)(w:World)(h:RunIn a q.h.m q.h.t (bs q.b) q.h.fs A v most w)(S:q.h.m.size<=maxLen)(E:zgF q.h.fs)(K:zcd a.set H B (most:Int)=0)(z:LibOk w)(J:q.h.fs.length<=1048576):
 Calls prog 40 #[a.value,.agg #[jA H,jA B,jA (most:Int)],.int .u32 (v:Int),.agg #[.string q.h.m,.string q.h.t,.slice A q.h.fs.length c,.string (bs q.b)]] w (zkY (outJ a.set v most) q w):=by
 obtain⟨y,C⟩:∃y,(((w.alloc (.cells #[jA a.most,jA a.status,.slice a.A a.l.length a.c] 24)).alloc (.cells #[jA H,jA B,jA (most:Int)] 26)).alloc (.cells #[.string q.h.m,.string q.h.t,.slice A q.h.fs.length c,.string (bs q.b)] 53)).alloc (.cells z9 58)=y:=⟨_,rfl⟩
 have d:w y:=by rw[<-C];exact((WaL.alloc (by simp) _).alloc (by simp;omega) _).alloc (by simp;omega) _
 have k:=zpH a H B (most:Int) y (h.lies.keep d d.size) h.bulk (z.below d);rw[K]at k
 refine zs0 w y a.most a.status H B (most:Int) v q.h.m q.h.t (bs q.b) A a.A q.h.fs.length c a.l.length a.c (λW u n=>OwnV W w.heap.size (.slice u q.h.fs.length n) q.h.fs)
  (λW F s=>∃x:OutM,F=zbK x/\s=bs (upO x.p)/\x.p=outJ a.set v most q/\OutOwn W w.heap.size x) _ C k (hIx λW hb=>?_) (hIx λW W' u n r hb=>OwnV.below r hb) (hIx λW u n hb r=>?_) (hIx λW W' F s ⟨x,h1,h2,D,o⟩ hb=>⟨x,h1,h2,D,o.below hb⟩)
  (hIx λW W' F s g cs ⟨x,h1,h2,D,o⟩ L i=>⟨x,h1,h2,D,ziU o.f L (by decide) i,ziU o.mt L (by decide) i⟩) (hIx λW U x1 X x2 Y n2 c2 n7 Z V x5 x6 x8 s ⟨x,h1,h2,D,o⟩ hb=>⟨x,by rw[h1,h2],D,o,hb⟩)
 ·refine(zr2 q.h.m q.h.t (bs q.b) q.h.fs A c W (h.keep (d.trans (hb.mono d.size))).f J).mono ?_
  rintro e w' ⟨u,n,rfl,r,j⟩;exact⟨u,n,rfl,OwnV.low r (Ql d.size hb.size),j⟩
 ·have i:=h.keep (d.trans (hb.mono d.size))
  refine(zn1 a H B v most q u n W ⟨i.lies,i.bulk,OwnV.sl r,i.fz,i.fl,i.tz,i.bz,i.mz,i.cz,i.lib,i.tab⟩ S E).mono ?_;rintro e w' ⟨x,s,rfl,Q,P,I,G,j⟩;refine⟨_,_,_,_,_,_,_,_,_,_,_,_,_,_,rfl,⟨x,rfl,P,Q,?_,G.low (Ql d.size hb.size)⟩,j⟩
  rcases I with rfl|⟨O,N,T,_⟩
  ·exact OwnV.nil _ _
  ·rw[O,N,T];exact OwnV.below r j
def zAl(O:OutP)(w:World)(a b c:Value)(wx:World):Prop:=
 ∃(gb:Nat) (x:OutM),a=.pointer gb/\b=.string (bs (upO x.p))/\c=jA 0/\wx.heap[gb]? = some (.cells (zbK x) 58 (0,0))/\x.p=O/\OutOwn wx w.heap.size x/\w wx/\w.heap.size<=gb
theorem MPost.drew{g L:Nat}{k:ConK}{S:ConS}{r:Value}{w w':World}{e:Ending}(h:MPost g L k S r w e w'):MPost g L k S r w e w'.drew:=by
 obtain⟨h1,m,h2,c,b⟩:=h;have a:=c.below (Qi _ _).drew;exact⟨h1,m,h2,a.1,b.trans a.2⟩
theorem OutOwn.put{w w':World}{base g:Nat}{x:OutM}(h:OutOwn w base x)(c:g<base)(b:∀j,j<w.heap.size->j≠g->w'.heap[j]? = w.heap[j]?):OutOwn w' base x:=
 ⟨h.f.keep λj a=>b j (QE h.f j a).2 (by have:=(QE h.f j a).1;omega),h.mt.keep λj a=>b j (h.mt.lt j a).2 (by have:=(h.mt.lt j a).1;omega)⟩
section
variable {g L:Nat} {k:ConK} {m:ConM} {w wx:World} {x:OutM} {q:ReqV}
theorem zyu(h:Con w g L k m)(hb:w wx)(j:x.p=k.p.F q)(v:x.p.err≠0)(l:m.s.down.length<=4000000000000000000):
 Calls prog 22 #[.pointer g,jA x.p.err,.string (.mk #[])] wx λe w2=>e=jC (.tuple #[])/\Calls prog 19 #[.pointer g] w2 (MPost g L k (judC k.p m.s (k.p.F q)) (.tuple #[]) w):=by
 obtain⟨y,o⟩:=h.below hb;have b:StIn x.p.err:=by rw[j];exact(zkW k.a.set k.cl k.A0.toNat q).2
 obtain⟨s,t⟩:∃s:Nat,(s:Int)=x.p.err:=⟨x.p.err.toNat,ZX (zeG b).1⟩
 have r:=(zeG b).2
 have u:judC k.p m.s (k.p.F q)=endC (zc3 m.s x.p.err []):=by
  unfold judC;rw[<-j,Qj v]
 rw[u,<-t];refine(zcS y s (by omega) (ByteArray.mk #[]) (by decide) l).mono ?_;rintro e w2 ⟨⟨rfl,z,c,d,f⟩,_⟩;refine⟨rfl,(zkb d).mono λe w3 n=>?_⟩;have i:=MPost.then (o.trans f) n.1;rw[c]at i;exact i
theorem zum{gb:Nat}(h:Con w g L k m)(hb:w wx)(S:w.heap.size<=gb)(l:wx.heap[gb]? = some (.cells (zbK x) 58 (0,0)))(C:OutOwn wx w.heap.size x)(J:x.p=k.p.F q)(U:x.p.err=0)(v:x.p.st≠0)(K:m.s.down.length<=4000000000000000000)(hl:m.s.log.length<=999999999999):
 Calls prog 22 #[.pointer g,jA x.p.st,.string (.mk #[])] (wx.setCell ⟨g,24,none⟩ (jA (m.s.jd+1))) λe w2=>e=jC (.tuple #[])/\w2.heap[gb]? = some (.cells (zbK x) 58 (0,0))/\
  Calls prog 29 #[.pointer g,.agg (zbK x),jA x.p.st] w2 (MPost g L k (judC k.p m.s (k.p.F q)) (.tuple #[]) w):=by
 obtain⟨c,O⟩:=h.below hb;have i:=h.box.lt;obtain⟨⟨_,u,b,H,o⟩,f⟩:=c.puts (Qi _ _) [(24,jA (m.s.jd+1))] {m with s:={m.s with jd:=m.s.jd+1}} ⟨c.t.wt,c.t.wo,c.t.log,c.t.ld,c.t.own,c.t.few⟩ (by kernel_rfl) (.tuple #[]);have j:StIn x.p.st:=by rw[J];exact(zkW k.a.set k.cl k.A0.toNat q).1
 obtain⟨s,Q⟩:∃s:Nat,(s:Int)=x.p.st:=⟨x.p.st.toNat,ZX (zeG j).1⟩
 have P:=(zeG j).2
 have T:judC k.p m.s (k.p.F q)=zhv k.num (zc3 u.s x.p.st []) x.p x.p.st:=by
  unfold judC;rw[<-J,Qf (by rw[U];decide),Qj v,b]
  rfl
 have r:gb<wx.heap.size:=(QI.1 l).1;have z:=C.put i f;have G:=(f gb r (by omega)).trans l;rw[T,<-Q];have A:u.s.down=m.s.down:=by rw[b]
 have E:u.s.log=m.s.log:=by rw[b]
 refine(zcS H s (by omega) (ByteArray.mk #[]) (by decide) (by rw[A];exact K)).mono ?_;rintro e w2 ⟨⟨rfl,V,n,B,D⟩,d⟩;have y:wx.heap.size<=(zcI wx g [(24,jA (m.s.jd+1))]).heap.size:=o.size;refine⟨rfl,(d gb (Qw r y) (by omega)).trans G,?_⟩;refine(zmA B x ((z.put i d).low h.e.le).mt s (by rw[n];show u.s.log.length<=_;rw[E];exact hl)).mono λe w3 N=>?_
 have I:=MPost.then ((O.trans o).trans D) N;rw[n]at I;exact I
theorem zvP(h:Con w g L k m)(hb:w wx)(f:OutOwn wx w.heap.size x)(o:x.p=k.p.F q)(l:x.p.err=0)(d:x.p.st=0)(U:ByteArray)(n:U=bs (m.s.up++upO x.p)):
 MPost g L k (judC k.p m.s (k.p.F q)) (.tuple #[]) w (jC (.tuple #[])) (zcI wx g [(24,jA (m.s.jd+1)),(21,.string U),(10,jA 1),(9,jA 0),(12,.string x.p.q.h.m),(13,.string x.p.q.h.t),(14,.slice x.A x.p.q.h.fs.length x.c),(15,.string (bs x.p.q.b)),(16,jA x.p.st),(17,jA x.p.who),(18,jA x.p.sc),(19,.slice x.Am x.p.mt.length x.cm),(20,jA x.p.err)]):=by
 obtain⟨a,i⟩:=h.below hb
 have j:judC k.p m.s (k.p.F q)={m.s with jd:=m.s.jd+1,up:=m.s.up++upO x.p,st:=1,gone:=0,wt:=x.p}:=by
  unfold judC;rw[<-o,Qf (by rw[l];decide),Qf (by rw[d];decide)]
 rw[j,n];exact MPost.then i (a.puts (Qi _ _) _ {m with s:={m.s with jd:=m.s.jd+1,up:=m.s.up++upO x.p,st:=1,gone:=0,wt:=x.p},w:=x} ⟨rfl,f.low h.e.le,a.t.log,a.t.ld,a.t.own,a.t.few⟩ (by kernel_rfl) (.tuple #[])).1
end
theorem zqL{g L:Nat}{k:ConK}{m:ConM}{w:World}(h:Con w g L k m)(q:ReqV)(A:Option Addr)(c base:Nat)(ho:zh3 q.h)(hq:q.b.length<=4096)(hO:OwnV w base (.slice A q.h.fs.length c) q.h.fs){n:Nat}(hE:Big m.s n)(hn:n<=900000000000):
 Calls prog 28 #[.pointer (some ⟨g,0,none⟩),.agg #[.string q.h.m,.string q.h.t,.slice A q.h.fs.length c,.string (bs q.b)]] w (MPost g L k (judC k.p m.s (k.p.F q)) (.tuple #[]) w):=by
 obtain⟨r,h0⟩:∃r,w.alloc (.cells #[.string q.h.m,.string q.h.t,.slice A q.h.fs.length c,.string (bs q.b)] 53)=r:=⟨_,rfl⟩
 have y:w r:=by rw[<-h0];exact WaL
 have hQ:r.heap[w.heap.size]? = some (.cells #[.string q.h.m,.string q.h.t,.slice A q.h.fs.length c,.string (bs q.b)] 53 (0,0)):=by rw[<-h0];exact Qv w _
 have hv:w.heap.size<r.heap.size:=(QI.1 hQ).1;have Q:=h.box.lt;obtain⟨h1,h2,P,h4,h5⟩:=hE;have hd:m.s.down.length<=4000000000000000000:=by omega
 have hu:(bs m.s.up).size<=4000000000000000000:=by rw[zah];omega
 have hl:m.s.log.length<=999999999999:=by omega
 have ht:=zd8 h.e.ok;have hi:=znC ht
 have u:Hid (∀W,r W->(∀j,W.cell? ⟨g,j,none⟩=(zaO k m)[j]?)/\(∀j,W.cell? ⟨w.heap.size,j,none⟩=(#[.string q.h.m,.string q.h.t,.slice A q.h.fs.length c,.string (bs q.b)]:Array Value)[j]?)):=hIx λW hb=>
  ⟨zak (((y.trans (hb.mono y.size)).block g Q).trans h.box),zak ((hb.block _ hv).trans hQ)⟩
 have hh:Hid (∀W,w W->(∀j,W.cell? ⟨g,j,none⟩=(zaO k m)[j]?)/\∀j,W.frozen? ⟨g,j,none⟩=false):=hIx λW hb=>⟨zak ((hb.block g Q).trans h.box),λj=>Zc _ _ j _ _ ((hb.block g Q).trans h.box)⟩
 have HJ:Hid (∀W,r W->Calls prog 40 #[.agg #[jA k.a.most,jA k.a.status,.slice k.a.A k.a.l.length k.a.c],.agg #[jA k.H,jA k.B,jA k.A0],.int .u32 (k.cl:Int),.agg #[.string q.h.m,.string q.h.t,.slice A q.h.fs.length c,.string (bs q.b)]] W (zkY k.p.F q W)):=hIx λW hb=>by
  have z:=y.trans (hb.mono y.size);have ha:=h.e.env w (Qi _ _);have hG:=h.e.cl;have:=zuv k.a k.H k.B k.cl k.A0.toNat q A c W (zy8 (h.e.lies.keep (Qi _ _) (QZ Q)) h.e.bulk hG (by omega) ha.1 ha.2 z ho hq (OwnV.below hO z)) (by have:=ho.short;unfold maxLen;omega) (zqq ho) (by rw[ZX (by omega)];exact h.e.ok) (ha.1.below z) (by have:=ho.few;omega);rw[ZX (by omega)]at this;exact this
 have HX:Hid (∀W wz (x:OutM),r W->x.p=k.p.F q->OutOwn wz W.heap.size x->W wz->x.p=k.p.F q/\OutOwn wz w.heap.size x):=hIx λW wz x d h1 h2 P=>⟨h1,h2.low (Ql y.size d.size)⟩
 have hF:Hid (∀W W' (x:OutM),x.p=k.p.F q/\OutOwn W w.heap.size x->W W'->x.p=k.p.F q/\OutOwn W' w.heap.size x):=hIx λW W' x h hb=>⟨h.1,h.2.below hb⟩
 have hy:Hid (∀(W W':World) (x:OutM) (g:Nat),x.p=k.p.F q/\OutOwn W w.heap.size x->W.heap[g]? = some (.cells z9 58 (0,0))->(∀j,j≠g->W'.heap[j]? = W.heap[j]?)->x.p=k.p.F q/\OutOwn W' w.heap.size x):=hIx λW W' x g h hg hk=>⟨h.1,ziU h.2.f hg (by decide) hk,ziU h.2.mt hg (by decide) hk⟩
 have hD:Hid (∀W,r W->w W):=hIx λW hb=>y.trans (hb.mono y.size)
 have hw:Hid (∀gb,r.heap.size<=gb->w.heap.size<=gb):=hIx λgb hb=>Ql y.size hb
 have h9:Hid (∀wx (x:OutM),w wx->x.p=k.p.F q->x.p.err≠0->Calls prog 22 #[.pointer (some ⟨g,0,none⟩),jA x.p.err,.string (.mk #[])] wx λe w2=>e=jC (.tuple #[])/\Calls prog 19 #[.pointer (some ⟨g,0,none⟩)] w2 (MPost g L k (judC k.p m.s (k.p.F q)) (.tuple #[]) w)):=
  hIx λwx x h1 h2 P=>zyu h h1 h2 P hd
 have X:=hIx (λ(wx:World) (x:OutM) (gb:Nat) h1 h2 P h4 h5 h6 h7=>zum (wx:=wx) (x:=x) (gb:=gb) (q:=q) h h1 h2 P h4 h5 h6 h7 hd hl);have S:=hIx (λ(wx:World) (x:OutM) h1 h2 P h4 h5 U hU=>zvP (wx:=wx) (x:=x) (q:=q) h h1 h2 P h4 h5 U hU);have HU:=hIx (λx:OutM=>ztj x.p);have hz:=hIx (And.intro h4 (show m.s.jd<=900000000000 by omega));have hC:Hid (∀gb,w.heap.size<=gb->¬gb=g/\¬g=gb):=hIx λgb hb=>by omega
 generalize judC k.p m.s (k.p.F q)=S' at *;unfold zkY at HJ;generalize k.p.F q=O at *;unfold zaO at u hh;have hB:=hIx h0;clear h y hQ hv Q h1 h2 P h4 h5 hd hl ht hi h0 ho hq hO
 go_in
 go_upto_region 1 with fail
 rw[hB.out]
 go_cut [4,5,6]from 7 to 24 (λt4 t5 t6 wx=>zAl O w t4 t5 t6 wx)
 case first=>
  have hH:r r:=Qi _ _;refine zcm 13 (λW=>r W) (by kernel_rfl) hH.drew ?_;intro d;generalize r.drew=wd at d ⊢;refine zab (i:=0) (v:=?v0_1) (some 8) rfl rfl (by kernel_rfl) (by kernel_rfl) (by kernel_rfl) (by decide) (λ_ _ _ h=>h) (by rfl) ?hy0_1 d ?rest0_1
  case hy0_1=>(intro w;go_simp;try rfl)
  intro _
  (try simp only[Act.put,Qa,Qg,Qh])
  refine zab (i:=1) (v:=?v1_2) (some 9) rfl rfl (by kernel_rfl) (by kernel_rfl) (by kernel_rfl) (by decide) (λ_ _ _ h=>h) (by rfl) ?hy1_2 d ?rest1_2
  case hy1_2=>(intro w;go_simp;try rfl)
  intro _
  (try simp only[Act.put,Qa,Qg,Qh])
  refine zab (i:=2) (v:=?v2_3) (some 10) rfl rfl (by kernel_rfl) (by kernel_rfl) (by kernel_rfl) (by decide) (λ_ _ _ h=>h) (by rfl) ?hy2_3 d ?rest2_3
  case hy2_3=>(intro w;go_simp;try rfl)
  intro _
  (try simp only[Act.put,Qa,Qg,Qh])
  refine zaq (i:=3) (v:=?v3_4) [13] (some 11) rfl rfl (by kernel_rfl) (by kernel_rfl) (by kernel_rfl) (by decide) (by kernel_rfl) (by decide) (by kernel_rfl) (λ_ _ _ h=>h) (by rfl) ?hy3_4 d ?rest3_4
  case hy3_4=>(intro w D;obtain⟨y0,y1⟩:=u.out w D;go_simp;try rfl)
  intro _
  (try simp only[Act.put,Qa,Qg,Qh])
  refine zab (i:=4) (v:=?v4_5) (some 12) rfl rfl (by kernel_rfl) (by kernel_rfl) (by kernel_rfl) (by decide) (λ_ _ _ h=>h) (by rfl) ?hy4_5 d ?rest4_5
  case hy4_5=>(intro w;go_simp;try rfl)
  intro _
  (try simp only[Act.put,Qa,Qg,Qh])
  refine zab (i:=5) (v:=?v5_6) (some 13) rfl rfl (by kernel_rfl) (by kernel_rfl) (by kernel_rfl) (by decide) (λ_ _ _ h=>h) (by rfl) ?hy5_6 d ?rest5_6
  case hy5_6=>(intro w;go_simp;try rfl)
  intro _
  (try simp only[Act.put,Qa,Qg,Qh])
  refine zab (i:=6) (v:=?v6_7) (some 14) rfl rfl (by kernel_rfl) (by kernel_rfl) (by kernel_rfl) (by decide) (λ_ _ _ h=>h) (by rfl) ?hy6_7 d ?rest6_7
  case hy6_7=>(intro w;go_simp;try rfl)
  intro _
  (try simp only[Act.put,Qa,Qg,Qh])
  refine zaq (i:=7) (v:=?v7_8) [13] (some 15) rfl rfl (by kernel_rfl) (by kernel_rfl) (by kernel_rfl) (by decide) (by kernel_rfl) (by decide) (by kernel_rfl) (λ_ _ _ h=>h) (by rfl) ?hy7_8 d ?rest7_8
  case hy7_8=>(intro w D;obtain⟨y0,y1⟩:=u.out w D;go_simp;try rfl)
  intro _
  (try simp only[Act.put,Qa,Qg,Qh])
  refine zab (i:=8) (v:=?v8_9) (some 16) rfl rfl (by kernel_rfl) (by kernel_rfl) (by kernel_rfl) (by decide) (λ_ _ _ h=>h) (by rfl) ?hy8_9 d ?rest8_9
  case hy8_9=>(intro w;go_simp;try rfl)
  intro _
  (try simp only[Act.put,Qa,Qg,Qh])
  refine zab (i:=9) (v:=?v9_10) (some 17) rfl rfl (by kernel_rfl) (by kernel_rfl) (by kernel_rfl) (by decide) (λ_ _ _ h=>h) (by rfl) ?hy9_10 d ?rest9_10
  case hy9_10=>(intro w;go_simp;try rfl)
  intro _
  (try simp only[Act.put,Qa,Qg,Qh])
  refine zab (i:=10) (v:=?v10_11) (some 18) rfl rfl (by kernel_rfl) (by kernel_rfl) (by kernel_rfl) (by decide) (λ_ _ _ h=>h) (by rfl) ?hy10_11 d ?rest10_11
  case hy10_11=>(intro w;go_simp;try rfl)
  intro _
  (try simp only[Act.put,Qa,Qg,Qh])
  refine zaq (i:=11) (v:=?v11_12) [13] (some 19) rfl rfl (by kernel_rfl) (by kernel_rfl) (by kernel_rfl) (by decide) (by kernel_rfl) (by decide) (by kernel_rfl) (λ_ _ _ h=>h) (by rfl) ?hy11_12 d ?rest11_12
  case hy11_12=>(intro w D;obtain⟨y0,y1⟩:=u.out w D;go_simp;try rfl)
  intro _
  (try simp only[Act.put,Qa,Qg,Qh])
  refine zaq (i:=12) (v:=?v12_13) [13] (some 20) rfl rfl (by kernel_rfl) (by kernel_rfl) (by kernel_rfl) (by decide) (by kernel_rfl) (by decide) (by kernel_rfl) (λ_ _ _ h=>h) (by rfl) ?hy12_13 d ?rest12_13
  case hy12_13=>(intro w D;obtain⟨y0,y1⟩:=u.out w D;go_simp;try rfl)
  intro _
  (try simp only[Act.put,Qa,Qg,Qh])
  refine zez (i:=13) (j:=18) (by kernel_rfl) rfl rfl (by rfl) (by rfl) ?_ ?_
  focus
   intro K N
   go_simp
   refine(HJ.out _ d).mono ?_;rintro e wz ⟨x,rfl,C,E,G⟩;have hq:=HX.out _ _ x d C E G;have d:=d.trans (G.mono d.size);obtain⟨⟨⟨⟨x0,x1,fs⟩,x3⟩,x4,x5,x6,mt,Z⟩,x2,c2,x7,c7⟩:=x;unfold zbK;refine N.out _ _ (λ_=>d) ?_
   (try simp only)
   refine zab (i:=14) (v:=?v14_14) (some 7) rfl rfl (by kernel_rfl) (by kernel_rfl) (by kernel_rfl) (by decide) (λ_ _ _ h=>h) (by rfl) ?hy14_14 d ?rest14_14
   case hy14_14=>(intro w;go_simp;try rfl)
   intro _
   (try simp only[Act.put,Qa,Qg,Qh])
   refine zab (i:=15) (v:=?v15_15) (some 22) rfl rfl (by kernel_rfl) (by kernel_rfl) (by kernel_rfl) (by decide) (λ_ _ _ h=>h) (by rfl) ?hy15_15 d ?rest15_15
   case hy15_15=>(intro w;go_simp;try rfl)
   intro _
   (try simp only[Act.put,Qa,Qg,Qh])
   refine zab (i:=16) (v:=?v16_16) (some 23) rfl rfl (by kernel_rfl) (by kernel_rfl) (by kernel_rfl) (by decide) (λ_ _ _ h=>h) (by rfl) ?hy16_16 d ?rest16_16
   case hy16_16=>(intro w;go_simp;try rfl)
   intro _
   (try simp only[Act.put,Qa,Qg,Qh])
   refine zab (i:=17) (v:=?v17_17) (some 24) rfl rfl (by kernel_rfl) (by kernel_rfl) (by kernel_rfl) (by decide) (λ_ _ _ h=>h) (by rfl) ?hy17_17 d ?rest17_17
   case hy17_17=>(intro w;go_simp;try rfl)
   intro _
   (try simp only[Act.put,Qa,Qg,Qh])
   refine zaj (i:=18) (some 4) _ (by kernel_rfl) rfl rfl rfl (by rfl) (by kernel_rfl) ?_;intro K N
   go_simp
   obtain⟨gb,hg,I,hl,h8⟩:=zcV wz (Obj.cells #[Value.string (.mk #[]),Value.string (.mk #[]),jD 0 0,Value.string (.mk #[]),jA 0,jA 0,jA 0,jD 0 0,jA 0] 58);have hm:r.heap.size<=gb:=hg ▸ d.size;have d:=d.trans (h8.mono d.size);rw[hg];have hq:=hF.out _ _ _ hq h8;generalize World.alloc wz (Obj.cells #[Value.string (.mk #[]),Value.string (.mk #[]),jD 0 0,Value.string (.mk #[]),jA 0,jA 0,jA 0,jD 0 0,jA 0] 58)=wz at I hl d hq ⊢;refine N.out _ _ ?_
   (try simp only[Act.put,Qa,Qg,Qh])
  rotate_left
  focus
   intro K N
   go_simp
   obtain⟨gb,hg,I,hl,h8⟩:=zcV wd (Obj.cells #[Value.string (.mk #[]),Value.string (.mk #[]),jD 0 0,Value.string (.mk #[]),jA 0,jA 0,jA 0,jD 0 0,jA 0] 58);have hm:r.heap.size<=gb:=hg ▸ d.size;have d:=d.trans (h8.mono d.size);rw[hg];refine N.out _ _ (λ_=>d) ?_
   (try simp only[Act.put,Qa,Qg,Qh])
   refine zaj (i:=13) (some 21) _ (by kernel_rfl) rfl rfl rfl (by rfl) (by kernel_rfl) ?_;intro K N
   go_simp
   refine(HJ.out _ d).mono ?_;rintro e wz ⟨x,rfl,C,E,G⟩;have hq:=HX.out _ _ x d C E G;have d:=d.trans (G.mono d.size);obtain⟨⟨⟨⟨x0,x1,fs⟩,x3⟩,x4,x5,x6,mt,Z⟩,x2,c2,x7,c7⟩:=x;unfold zbK;have I:=(G.block gb hl).trans I;refine N.out _ _ ?_
   (try simp only)
   refine zab (i:=14) (v:=?v14_18) (some 7) rfl rfl (by kernel_rfl) (by kernel_rfl) (by kernel_rfl) (by decide) (λ_ _ _ h=>h) (by rfl) ?hy14_18 d ?rest14_18
   case hy14_18=>(intro w;go_simp;try rfl)
   intro _
   (try simp only[Act.put,Qa,Qg,Qh])
   refine zab (i:=15) (v:=?v15_19) (some 22) rfl rfl (by kernel_rfl) (by kernel_rfl) (by kernel_rfl) (by decide) (λ_ _ _ h=>h) (by rfl) ?hy15_19 d ?rest15_19
   case hy15_19=>(intro w;go_simp;try rfl)
   intro _
   (try simp only[Act.put,Qa,Qg,Qh])
   refine zab (i:=16) (v:=?v16_20) (some 23) rfl rfl (by kernel_rfl) (by kernel_rfl) (by kernel_rfl) (by decide) (λ_ _ _ h=>h) (by rfl) ?hy16_20 d ?rest16_20
   case hy16_20=>(intro w;go_simp;try rfl)
   intro _
   (try simp only[Act.put,Qa,Qg,Qh])
   refine zab (i:=17) (v:=?v17_21) (some 24) rfl rfl (by kernel_rfl) (by kernel_rfl) (by kernel_rfl) (by decide) (λ_ _ _ h=>h) (by rfl) ?hy17_21 d ?rest17_21
   case hy17_21=>(intro w;go_simp;try rfl)
   intro _
   (try simp only[Act.put,Qa,Qg,Qh])
  all_goals
   refine zaj (i:=19) none _ (by kernel_rfl) rfl rfl rfl (by rfl) (by kernel_rfl) ?_;intro K N;have c9:=zak I;have f9:=λj=>Zc _ _ j _ _ I
   go_simp
   refine N.out _ _ ?_
   (try simp only[Act.put,Qa,Qg,Qh])
   refine zaj (i:=20) (some 5) _ (by kernel_rfl) rfl rfl rfl (by rfl) (by kernel_rfl) ?_;intro K N
   go_simp
   refine N.out _ _ ?_
   (try simp only[Act.put,Qa,Qg,Qh])
   refine zaj (i:=21) (some 6) _ (by kernel_rfl) rfl rfl rfl (by rfl) (by kernel_rfl) ?_;intro K N
   go_simp
   refine N.out _ _ ?_
   (try simp only[Act.put,Qa,Qg,Qh])
   refine zcl (by kernel_rfl) ?_ _;have g1:=box9 I x0 x1 (bs x3) x2 x7 fs.length c2 mt.length c7 x4 x5 x6 Z;have g2:=hy.out _ (zcI wz gb (l9 x0 x1 (bs x3) x2 x7 fs.length c2 mt.length c7 x4 x5 x6 Z)) _ gb hq I (λj hj=>zcR hj (l9 x0 x1 (bs x3) x2 x7 fs.length c2 mt.length c7 x4 x5 x6 Z) _);have g3:=zdo hm (l9 x0 x1 (bs x3) x2 x7 fs.length c2 mt.length c7 x4 x5 x6 Z) _ _ d;simp only[zcI,l9]at g1 g2 g3;go_wp2;go_meet;exact⟨gb,(⟨⟨⟨⟨x0,x1,fs⟩,x3⟩,x4,x5,x6,mt,Z⟩,x2,c2,x7,c7⟩:OutM),rfl,Zm (λo=>Value.string (bs (upO o))) hq.1.symm,rfl,g1,g2.1,g2.2,hD.out _ g3,hw.out _ hm⟩
 case rest=>
  obtain⟨gb,x,rfl,rfl,rfl,I,C,E,z,hr⟩:=hcut;have ⟨hc,hf⟩:=hh.out wc z;have hJ:=hC.out gb hr;obtain⟨T,hT⟩:∃T,bs (upO x.p)=T:=⟨_,rfl⟩
  obtain⟨U,hU⟩:∃U,bs m.s.up=U:=⟨_,rfl⟩
  have hI:U.size+T.size<=9223372036854775807:=by
   have h2:=HU.out x;rw[hU]at hu;rw[<-hT,zah];omega
  have V:=hIx (h9.out wc x z C);have J:=hIx (X.out wc x gb z hr I E C);have Y:=hIx (λhe hs=>S.out wc x z E C he hs (U++T) (by rw[<-hU,<-hT,zbq]));have i7:IntKind.i64.wrap (m.s.jd+1)=m.s.jd+1:=Qz _ (by have:=hz.out;omega);rw[hU]at hc;rw[hT];have c9:=zak I;have f9:=λj=>Zc _ _ j _ _ I
  clear h9 X S u hh HJ HX hF hy hD hw HU hz hC hB I C E z hr hT hU hu;obtain⟨⟨⟨⟨x0,x1,fs⟩,x3⟩,x4,x5,x6,mt,Z⟩,x2,c2,x7,c7⟩:=x;unfold zbK at c9 J;dsimp only at c9 V J Y;generalize fs.length=fl at *;generalize mt.length=ml at *;generalize bs x3=X3 at *
  by_cases he:Z=0
  ·subst he
   by_cases hs:x4=0
   ·subst hs
    have hp:=Y.out rfl rfl;simp only[zcI]at hp;have HP:=hIx hp;clear V J Y hp;go_wp2_with fail
    go_region
    all_goals
     go_wp2_with fail
     go_end0
     exact MPost.drew HP.out
   ·have n4:(x4 != 0)=true:=Q6.2 hs
    have HN:=hIx (J.out rfl hs);clear V J Y hs;go_wp2_with (go_at_call 22;apply Hid.out);refine WhM HN ?_;rintro e w2 ⟨rfl,hA,h2⟩;have d9:=zak hA;have HW:=hIx h2;clear h2 hA;go_wp2_with (go_at_call 29;apply Hid.out);refine WhM HW ?_;rintro e w3 ⟨rfl,P⟩;have H3:=hIx P;go_wp2_with fail
    go_end0
    exact⟨rfl,H3.out⟩
  ·have n8:(Z != 0)=true:=Q6.2 he
   have n9:(Z==0)=false:=Qc.2 he;have HB:=hIx (V.out he);clear V J Y he;go_wp2_with (go_at_call 22;apply Hid.out);refine WhM HB ?_;rintro e w2 ⟨rfl,h2⟩;have HW:=hIx h2;clear h2;go_wp2_with (go_at_call 19;apply Hid.out);refine WhM HW ?_;rintro e w3 ⟨rfl,P⟩;have H3:=hIx P;go_wp2_with fail
   go_end0
   exact⟨rfl,H3.out⟩
def z4:Array Value:=#[.string (.mk #[]),.string (.mk #[]),jD 0 0,.string (.mk #[])]
def l4(a e b:ByteArray)(f:Option Addr)(c d:Nat):List (Nat × Value):=[(0,.string a),(1,.string e),(2,.slice f c d),(3,.string b)]
theorem box4{w:World}{g:Nat}{t:TypeId}(h:w.heap[g]? = some (.cells z4 t (0,0)))(a i b:ByteArray)(d:Option Addr)(c f:Nat):(zcI w g (l4 a i b d c f)).heap[g]? = some (.cells #[.string a,.string i,.slice d c f,.string b] t (0,0)):=by
 have h1:=zg6 (l4 a i b d c f) w z4 h;have e:zqC z4 (l4 a i b d c f)=#[.string a,.string i,.slice d c f,.string b]:=by kernel_rfl
 rw[e]at h1;exact h1
def OnQ(l:jE)(H B:Int)(base:Nat)(wx:World)(c j e:ByteArray)(k:Option Addr)(f g:Nat)(d a:Int):Prop:=
 (oneR l H B=.error a/\a≠0)\/∃q i,oneR l H B=.ok (q,i)/\d=(i:Int)/\a=0/\c=q.h.m/\j=q.h.t/\f=q.h.fs.length/\e=bs q.b/\OwnV wx base (.slice k q.h.fs.length g) q.h.fs
def zAi(m:World->ByteArray->ByteArray->ByteArray->Option Addr->Nat->Nat->Int->Int->Prop)(a:World)(j k l:Value)(wx:World):Prop:=
 ∃(gb:Nat) (b h e:ByteArray) (i:Option Addr) (f g:Nat) (c d:Int),j=.pointer gb/\k=jA c/\l=jA d/\wx.heap[gb]? = some (.cells #[.string b,.string h,.slice i f g,.string e] 53 (0,0))/\m wx b h e i f g c d/\a wx/\a.heap.size<=gb
theorem ztp{l:jE}{H B:Int}{base:Nat}{W W':World}{g c e:ByteArray}{j:Option Addr}{a b:Nat}{f d:Int}(h:OnQ l H B base W g c e j a b f d)(hb:W W'):OnQ l H B base W' g c e j a b f d:=by
 rcases h with h|⟨q,i,h1,h2,r,k,n,s,m,o⟩
 ·exact .inl h
 ·exact .inr ⟨q,i,h1,h2,r,k,n,s,m,OwnV.below o hb⟩
theorem zw3{l:jE}{H B:Int}{base g:Nat}{W W':World}{k c e:ByteArray}{m:Option Addr}{a b:Nat}{f d:Int}{cs:Array Value}(h:OnQ l H B base W k c e m a b f d)(v:W.heap[g]? = some (.cells cs 53 (0,0)))(n:∀j,j≠g->W'.heap[j]? = W.heap[j]?):OnQ l H B base W' k c e m a b f d:=by
 rcases h with h|⟨q,i,h1,h2,u,o,s,w,r,t⟩
 ·exact .inl h
 ·exact .inr ⟨q,i,h1,h2,u,o,s,w,r,ziU t v (by decide) n⟩
def zol(g:Nat)(w:World):Nat:=match w.cell? ⟨g,11,none⟩with
 |some v=>zzr v
 |none=>0
def zyP(g L:Nat)(k:ConK)(C:ConS)(N:Nat)(w wr:World):Prop:=∃m n,Con wr g L k m/\Fr g L w wr/\onC k.p m.s=C/\Big m.s n/\n+m.s.inp.length<=N
section
variable {g L n N:Nat} {k:ConK} {m:ConM} {C:ConS} {w wr wx:World}
theorem zrD(h:CAt w g k m):zol g w=m.s.inp.length:=by
 unfold zol;have e:=h.cells 11;rw[e];exact zah _
theorem zyo(S:Con wr g L k m)(hf:Fr g L w wr)(D:onC k.p m.s=C)(d:Big m.s n)(hn:n+m.s.inp.length<=N)(hN:N<=850000000000)(Y:m.s.st=0)(hb:wr wx){q:ReqV}{i:Nat}(J:oneR m.s.inp k.H k.B=.ok (q,i)){A:Option Addr}{c:Nat}(G:OwnV wx wr.heap.size (.slice A q.h.fs.length c) q.h.fs)(X:ByteArray)(hX:X=bs (m.s.inp.drop i)):
 Calls prog 28 #[.pointer g,.agg #[.string q.h.m,.string q.h.t,.slice A q.h.fs.length c,.string (bs q.b)]] (wx.setCell ⟨g,11,none⟩ (.string X)) λe w2=>e=jC (.tuple #[])/\zyP g L k C N w w2/\zol g w2<m.s.inp.length:=by
 subst hX;obtain⟨f,K⟩:=S.below hb;have h3:=S.box.lt;have I:=zd8 S.e.ok;obtain⟨⟨h6,_⟩,r,h5⟩:=zfo I;have o:0<=k.H:=by omega
 obtain⟨h4,Z,h7⟩:=zgi o r J
 have E:zh3 q.h:=by
  obtain⟨_,_,_,hp,_⟩:=zwP o J;exact zhV (zpk hp).2.1
 obtain⟨⟨_,m1,v,T,P⟩,z⟩:=f.puts (Qi _ _) [(11,.string (bs (m.s.inp.drop i)))] {m with s:={m.s with inp:=m.s.inp.drop i}} ⟨f.t.wt,f.t.wo,f.t.log,f.t.ld,f.t.own,by have:=f.t.few;show (m.s.inp.drop i).length<=_;rw[QJ];omega⟩ (by kernel_rfl) (.tuple #[]);have y:OwnV (wx.setCell ⟨g,11,none⟩ (.string (bs (m.s.inp.drop i)))) wr.heap.size (.slice A q.h.fs.length c) q.h.fs:=OwnV.keep G λj W=>z j (QE G j W).2 (by have:=(QE G j W).1;omega)
 have Q:Big m1.s n:=by rw[v];exact⟨d.up,d.down,d.log,d.jd0,d.jd⟩
 refine(zqL T q A c _ E (by omega) y Q (by omega)).mono ?_;rintro e w2 ⟨rfl,U,l,x,O⟩;rw[v]at l
 have V:U.s.inp.length<=m.s.inp.length-i:=by
  rw[l]
  rcases zkO k.p {m.s with inp:=m.s.inp.drop i} (k.p.F q)with e|⟨e,_⟩
  ·rw[e];show (m.s.inp.drop i).length<=_;rw[QJ];exact Qd _
  ·rw[e];exact Qn _
 refine⟨rfl,⟨U,n+1,x,((hf.trans K).trans P).trans O,?_,?_,by omega⟩,?_⟩
 ·rw[l,<-D,zwC (p:=k.p) o r Y J]
 ·rw[l]
  have u:=zkW k.a.set k.cl k.A0.toNat q;exact zsY (C:={m.s with inp:=m.s.inp.drop i}) ⟨d.up,d.down,d.log,d.jd0,d.jd⟩ (k.p.F q) u.1 u.2
 ·rw[zrD x.box];omega
theorem zxA(b:Con wr g L k m)(c:Fr g L w wr)(a:onC k.p m.s=C)(e:m.s.st=0)(hb:wr wx)(d:oneR m.s.inp k.H k.B=.error 7):MPost g L k C (.tuple #[]) w (jC (.tuple #[])) wx:=
 ⟨rfl,m,by rw[<-a,zko (p:=k.p) e d,Qj rfl],(b.below hb).1,c.trans (b.below hb).2⟩
theorem zyF(y:Con wr g L k m)(r:Fr g L w wr)(c:onC k.p m.s=C)(a:Big m.s n)(A:n+m.s.inp.length<=N)(D:N<=850000000000)(l:m.s.st=0)(hb:wr wx){x:Int}(t:oneR m.s.inp k.H k.B=.error x)(o:x≠7):
 Calls prog 22 #[.pointer g,jA (zbs x),.string (.mk #[])] wx λe w2=>e=jC (.tuple #[])/\Calls prog 19 #[.pointer g] w2 (MPost g L k C (.tuple #[]) w):=by
 obtain⟨b,h⟩:=y.below hb;have h1:0<=zbs x:=by unfold zbs;split <;> (try split) <;> decide
 have h2:=zej x;obtain⟨s,u⟩:∃s:Nat,(s:Int)=zbs x:=⟨(zbs x).toNat,ZX h1⟩
 have v:C=endC (zc3 m.s (zbs x) []):=by rw[<-c,zko (p:=k.p) l t,Qf o]
 rw[v,<-u];refine(zcS b s (by omega) (ByteArray.mk #[]) (by decide) (by have:=a.down;omega)).mono ?_;rintro e w2 ⟨⟨rfl,z,d,f,i⟩,_⟩;refine⟨rfl,(zkb f).mono λe w3 q=>?_⟩;have j:=MPost.then ((r.trans h).trans i) q.1;rw[d]at j;exact j
theorem zzq(b:Con wr g L k m){W:World}(hb:wr W):Calls prog 26 #[.string (bs m.s.inp),.agg #[jA k.H,jA k.B,jA k.A0]] W λe w'=>
 ∃(o h l:ByteArray) (r:Option Addr) (d f:Nat) (n j:Int),e=jC (.tuple #[.agg #[.string o,.string h,.slice r d f,.string l],jA n,jA j])/\OnQ m.s.inp k.H k.B wr.heap.size w' o h l r d f n j/\W w':=by
 refine(zxt (bs m.s.inp) k.H k.B k.A0 W (zd8 b.e.ok) (b.e.env W (hb.mono (QZ b.box.lt))).1 (by have:=b.t.few;rw[zah];omega)).mono ?_;rintro e w' (⟨x,h1,rfl,a⟩|⟨q,i,A,c,h1,rfl,u,a⟩)
 ·exact⟨_,_,_,_,_,_,_,_,rfl,.inl ⟨h1,zzs h1⟩,a⟩
 ·exact⟨_,_,_,_,_,_,_,_,rfl,.inr ⟨q,i,h1,rfl,rfl,rfl,rfl,rfl,rfl,OwnV.low u hb.size⟩,a⟩
end
theorem ztB{g L:Nat}{k:ConK}{m:ConM}{w:World}(h:Con w g L k m){n:Nat}(o:Big m.s n)(hn:n<=800000000000):
 Calls prog 20 #[.pointer g] w (MPost g L k (onC k.p m.s) (.tuple #[]) w):=by
 have h5:Hid (zyP g L k (onC k.p m.s) (n+m.s.inp.length) w w):=hIx ⟨m,n,h,Fr.refl,rfl,o,Qd _⟩;have HN:Hid (n+m.s.inp.length<=850000000000):=hIx (by have:=h.t.few;omega);generalize onC k.p m.s=C at *;generalize n+m.s.inp.length=N at *;clear h o hn
 go_in
 go_wp2
 go_loopw [2] (λ_ wr=>zyP g L k C N w wr) (λ_ wr=>zol g wr)
 case atStart=>exact h5.out
 case round=>
  obtain⟨r,rfl⟩:∃x:World,x=wr:=⟨_,rfl⟩
  obtain⟨f,n',G,hf,O,o,hn⟩:=hrel;have c9:=G.box.cells;unfold zaO at c9;have Q:=zrD G.box;clear h5
  by_cases U:f.s.st=0
  rotate_left
  ·have n0:(f.s.st==0)=false:=Qc.2 U
   have HX:Hid (MPost g L k C (.tuple #[]) w (jC (.tuple #[])) r):=hIx ⟨rfl,f,by rw[<-O,zkv U],G,hf⟩;clear G hf O o hn Q U HN;go_wp2_with fail
   go_end0
   exact HX.out
  ·rw[U]at c9
   obtain⟨I,hI⟩:∃I,bs f.s.inp=I:=⟨_,rfl⟩
   rw[hI]at c9
   have y:Hid (∀W,r W->(∀j,W.cell? ⟨g,j,none⟩=(#[jA k.a.most,jA k.a.status,.slice k.a.A k.a.l.length k.a.c,jA k.H,jA k.B,jA k.A0,jA k.num,.int .u32 k.cl,jA k.tk,jA f.s.gone,jA 0,.string I,.string f.w.p.q.h.m,.string f.w.p.q.h.t,.slice f.w.A f.w.p.q.h.fs.length f.w.c,.string (bs f.w.p.q.b),jA f.w.p.st,jA f.w.p.who,jA f.w.p.sc,.slice f.w.Am f.w.p.mt.length f.w.cm,jA f.w.p.err,.string (bs f.s.up),.string (bs f.s.down),f.lv,jA f.s.jd]:Array Value)[j]?)/\∀j,W.frozen? ⟨g,j,none⟩=false):=hIx λW hb=>
    ⟨λj=>(hb.cell (p:=⟨g,j,none⟩) G.box.lt).trans (c9 j),λj=>Zc _ _ j _ _ ((hb.block g G.box.lt).trans G.box)⟩
   have u:=hIx (λW (hb:r W)=>zzq G hb);rw[hI]at u;have z:=hIx (λwx (hb:r wx) Y=>zxA (wx:=wx) G hf O U hb Y);have D:=hIx (λwx (hb:r wx) (x:Int) Y h7=>zyF (wx:=wx) (x:=x) G hf O o hn HN.out U hb Y h7);have E:=hIx (λwx (hb:r wx) (q:ReqV) (i:Nat) Y (A:Option Addr) (c:Nat) hO X hX=>zyo (wx:=wx) (q:=q) (i:=i) (A:=A) (c:=c) G hf O o hn HN.out U hb Y hO X hX)
   have HI:Hid (∀q i,oneR f.s.inp k.H k.B=.ok (q,i)->I.extract i I.size=bs (f.s.inp.drop i)/\(i:Int)<=(I.size:Int)/\(0:Int)<=(i:Int)):=hIx λq i Y=>by
    obtain⟨⟨h9,_⟩,h6,_⟩:=zfo (zd8 G.e.ok);obtain⟨_,_,h2⟩:=zgi (by omega) h6 Y;rw[<-hI];refine⟨ziI ?_,by rw[zah];omega,by omega⟩;rw[ZL];exact QR (by rw[QJ];exact Qd _)
   have h4:=hIx Q;have HG:Hid (∀gb,r.heap.size<=gb->¬gb=g/\¬g=gb):=hIx λgb h=>by have:=G.box.lt;omega
   clear G hf O o hn Q U HN hI;go_upto_region 1 with fail
   clear c9
   go_cut [2,3,4]from 10 to 22 (λt2 t3 t4 wx=>zAi (OnQ f.s.inp k.H k.B r.heap.size) r t2 t3 t4 wx)
   case first=>
    have h8:r r:=Qi _ _;refine zcm 8 (λW=>r W) (by kernel_rfl) h8.drew ?_;intro d;generalize r.drew=wd at d ⊢;refine zab (i:=0) (v:=?v0_1) (some 11) rfl rfl (by kernel_rfl) (by kernel_rfl) (by kernel_rfl) (by decide) (λ_ _ _ h=>h) (by rfl) ?hy0_1 d ?rest0_1
    case hy0_1=>(intro w;go_simp;try rfl)
    intro _
    (try simp only[Act.put,Qa,Qg,Qh])
    refine zab (i:=1) (v:=?v1_2) (some 12) rfl rfl (by kernel_rfl) (by kernel_rfl) (by kernel_rfl) (by decide) (λ_ _ _ h=>h) (by rfl) ?hy1_2 d ?rest1_2
    case hy1_2=>(intro w;go_simp;try rfl)
    intro _
    (try simp only[Act.put,Qa,Qg,Qh])
    refine zab (i:=2) (v:=?v2_3) (some 13) rfl rfl (by kernel_rfl) (by kernel_rfl) (by kernel_rfl) (by decide) (λ_ _ _ h=>h) (by rfl) ?hy2_3 d ?rest2_3
    case hy2_3=>(intro w;go_simp;try rfl)
    intro _
    (try simp only[Act.put,Qa,Qg,Qh])
    refine zaq (i:=3) (v:=?v3_4) [8] (some 14) rfl rfl (by kernel_rfl) (by kernel_rfl) (by kernel_rfl) (by decide) (by kernel_rfl) (by decide) (by kernel_rfl) (λ_ _ _ h=>h) (by rfl) ?hy3_4 d ?rest3_4
    case hy3_4=>(intro w Z;obtain⟨u9,_⟩:=y.out w Z;go_simp;try rfl)
    intro _
    (try simp only[Act.put,Qa,Qg,Qh])
    refine zab (i:=4) (v:=?v4_5) (some 15) rfl rfl (by kernel_rfl) (by kernel_rfl) (by kernel_rfl) (by decide) (λ_ _ _ h=>h) (by rfl) ?hy4_5 d ?rest4_5
    case hy4_5=>(intro w;go_simp;try rfl)
    intro _
    (try simp only[Act.put,Qa,Qg,Qh])
    refine zab (i:=5) (v:=?v5_6) (some 16) rfl rfl (by kernel_rfl) (by kernel_rfl) (by kernel_rfl) (by decide) (λ_ _ _ h=>h) (by rfl) ?hy5_6 d ?rest5_6
    case hy5_6=>(intro w;go_simp;try rfl)
    intro _
    (try simp only[Act.put,Qa,Qg,Qh])
    refine zab (i:=6) (v:=?v6_7) (some 17) rfl rfl (by kernel_rfl) (by kernel_rfl) (by kernel_rfl) (by decide) (λ_ _ _ h=>h) (by rfl) ?hy6_7 d ?rest6_7
    case hy6_7=>(intro w;go_simp;try rfl)
    intro _
    (try simp only[Act.put,Qa,Qg,Qh])
    refine zaq (i:=7) (v:=?v7_8) [8] (some 18) rfl rfl (by kernel_rfl) (by kernel_rfl) (by kernel_rfl) (by decide) (by kernel_rfl) (by decide) (by kernel_rfl) (λ_ _ _ h=>h) (by rfl) ?hy7_8 d ?rest7_8
    case hy7_8=>(intro w Z;obtain⟨u9,_⟩:=y.out w Z;go_simp;try rfl)
    intro _
    (try simp only[Act.put,Qa,Qg,Qh])
    refine zez (i:=8) (j:=13) (by kernel_rfl) rfl rfl (by rfl) (by rfl) ?_ ?_
    focus
     intro K P
     go_simp
     refine(u.out _ d).mono ?_;rintro e wz ⟨y0,y1,y3,y2,yn,yc,nv,ev,rfl,hq,S⟩;have d:=d.trans (S.mono d.size);refine P.out _ _ (λ_=>d) ?_
     (try simp only[Act.put,Qa,Qg,Qh])
     refine zab (i:=9) (v:=?v9_9) (some 10) rfl rfl (by kernel_rfl) (by kernel_rfl) (by kernel_rfl) (by decide) (λ_ _ _ h=>h) (by rfl) ?hy9_9 d ?rest9_9
     case hy9_9=>(intro w;go_simp;try rfl)
     intro _
     (try simp only[Act.put,Qa,Qg,Qh])
     refine zab (i:=10) (v:=?v10_10) (some 20) rfl rfl (by kernel_rfl) (by kernel_rfl) (by kernel_rfl) (by decide) (λ_ _ _ h=>h) (by rfl) ?hy10_10 d ?rest10_10
     case hy10_10=>(intro w;go_simp;try rfl)
     intro _
     (try simp only[Act.put,Qa,Qg,Qh])
     refine zab (i:=11) (v:=?v11_11) (some 21) rfl rfl (by kernel_rfl) (by kernel_rfl) (by kernel_rfl) (by decide) (λ_ _ _ h=>h) (by rfl) ?hy11_11 d ?rest11_11
     case hy11_11=>(intro w;go_simp;try rfl)
     intro _
     (try simp only[Act.put,Qa,Qg,Qh])
     refine zab (i:=12) (v:=?v12_12) (some 22) rfl rfl (by kernel_rfl) (by kernel_rfl) (by kernel_rfl) (by decide) (λ_ _ _ h=>h) (by rfl) ?hy12_12 d ?rest12_12
     case hy12_12=>(intro w;go_simp;try rfl)
     intro _
     (try simp only[Act.put,Qa,Qg,Qh])
     refine zaj (i:=13) (some 2) _ (by kernel_rfl) rfl rfl rfl (by rfl) (by kernel_rfl) ?_;intro K P
     go_simp
     obtain⟨gb,hg,J,hl,T⟩:=zcV wz (Obj.cells #[Value.string (.mk #[]),Value.string (.mk #[]),jD 0 0,Value.string (.mk #[])] 53);have F:r.heap.size<=gb:=hg ▸ d.size;have d:=d.trans (T.mono d.size);rw[hg];have hq:=ztp hq T;generalize World.alloc wz (Obj.cells #[Value.string (.mk #[]),Value.string (.mk #[]),jD 0 0,Value.string (.mk #[])] 53)=wz at J hl d hq ⊢;refine P.out _ _ ?_
     (try simp only[Act.put,Qa,Qg,Qh])
    rotate_left
    focus
     intro K P
     go_simp
     obtain⟨gb,hg,J,hl,T⟩:=zcV wd (Obj.cells #[Value.string (.mk #[]),Value.string (.mk #[]),jD 0 0,Value.string (.mk #[])] 53);have F:r.heap.size<=gb:=hg ▸ d.size;have d:=d.trans (T.mono d.size);rw[hg];refine P.out _ _ (λ_=>d) ?_
     (try simp only[Act.put,Qa,Qg,Qh])
     refine zaj (i:=8) (some 19) _ (by kernel_rfl) rfl rfl rfl (by rfl) (by kernel_rfl) ?_;intro K P
     go_simp
     refine(u.out _ d).mono ?_;rintro e wz ⟨y0,y1,y3,y2,yn,yc,nv,ev,rfl,hq,S⟩;have d:=d.trans (S.mono d.size);have J:=(S.block gb hl).trans J;refine P.out _ _ ?_
     (try simp only[Act.put,Qa,Qg,Qh])
     refine zab (i:=9) (v:=?v9_13) (some 10) rfl rfl (by kernel_rfl) (by kernel_rfl) (by kernel_rfl) (by decide) (λ_ _ _ h=>h) (by rfl) ?hy9_13 d ?rest9_13
     case hy9_13=>(intro w;go_simp;try rfl)
     intro _
     (try simp only[Act.put,Qa,Qg,Qh])
     refine zab (i:=10) (v:=?v10_14) (some 20) rfl rfl (by kernel_rfl) (by kernel_rfl) (by kernel_rfl) (by decide) (λ_ _ _ h=>h) (by rfl) ?hy10_14 d ?rest10_14
     case hy10_14=>(intro w;go_simp;try rfl)
     intro _
     (try simp only[Act.put,Qa,Qg,Qh])
     refine zab (i:=11) (v:=?v11_15) (some 21) rfl rfl (by kernel_rfl) (by kernel_rfl) (by kernel_rfl) (by decide) (λ_ _ _ h=>h) (by rfl) ?hy11_15 d ?rest11_15
     case hy11_15=>(intro w;go_simp;try rfl)
     intro _
     (try simp only[Act.put,Qa,Qg,Qh])
     refine zab (i:=12) (v:=?v12_16) (some 22) rfl rfl (by kernel_rfl) (by kernel_rfl) (by kernel_rfl) (by decide) (λ_ _ _ h=>h) (by rfl) ?hy12_16 d ?rest12_16
     case hy12_16=>(intro w;go_simp;try rfl)
     intro _
     (try simp only[Act.put,Qa,Qg,Qh])
    all_goals
     refine zaj (i:=14) none _ (by kernel_rfl) rfl rfl rfl (by rfl) (by kernel_rfl) ?_;intro K P;have c9:=zak J;have f9:=λj=>Zc _ _ j _ _ J
     go_simp
     refine P.out _ _ ?_
     (try simp only[Act.put,Qa,Qg,Qh])
     refine zaj (i:=15) (some 3) _ (by kernel_rfl) rfl rfl rfl (by rfl) (by kernel_rfl) ?_;intro K P
     go_simp
     refine P.out _ _ ?_
     (try simp only[Act.put,Qa,Qg,Qh])
     refine zaj (i:=16) (some 4) _ (by kernel_rfl) rfl rfl rfl (by rfl) (by kernel_rfl) ?_;intro K P
     go_simp
     refine P.out _ _ ?_
     (try simp only[Act.put,Qa,Qg,Qh])
     refine zcl (by kernel_rfl) ?_ _;have g1:=box4 J y0 y1 y3 y2 yn yc;have g2:=zw3 hq J (λj hj=>zcR hj (l4 y0 y1 y3 y2 yn yc) wz);have g3:=zdo F (l4 y0 y1 y3 y2 yn yc) _ _ d;simp only[zcI,l4]at g1 g2 g3;go_wp2;go_meet;exact⟨gb,y0,y1,y3,y2,yn,yc,nv,ev,rfl,rfl,rfl,g1,g2,g3,F⟩
   case rest=>
    obtain⟨gb,y0,y1,y3,y2,yn,yc,nv,ev,rfl,rfl,rfl,J,hq,hb,F⟩:=hcut;have ⟨d9,f9⟩:=y.out wc hb
    rcases hq with ⟨h1,V⟩|⟨q,i,h1,rfl,rfl,rfl,rfl,rfl,rfl,hO⟩
    ·by_cases h7:ev=7
     ·subst h7
      have HF:=hIx (z.out wc hb h1);clear J hb F V h1 z D E HI u y;go_wp2_with fail
      go_end0
      exact HF.out
     ·have HF:=hIx (D.out wc hb ev h1 h7)
      have n7:(ev==7)=false:=Qc.2 h7;have n0:(ev != 0)=true:=Q6.2 V;clear J hb F V h1 h7 z D E HI u y;go_wp2_with (first|(go_at_call 27;refine(zqA _ _).mono ?_;rintro e w4 ⟨rfl,rfl⟩)|(go_at_call 22;apply Hid.out));refine WhM HF ?_;rintro e w2 ⟨rfl,h2⟩;have HW:=hIx h2;clear h2;go_wp2_with (go_at_call 19;apply Hid.out);refine WhM HW ?_;rintro e w3 ⟨rfl,h3⟩;have H3:=hIx h3;clear h3;go_wp2_with fail
      go_end0
      exact⟨rfl,H3.out⟩
    ·obtain⟨e1,ha,i0⟩:=HI.out q i h1
     have HJ:=hIx (E.out wc hb q i h1 y2 yc hO _ e1);have hd:¬gb=g/\¬g=gb:=HG.out gb F;have x9:=zak J;clear J hb F h1 hO e1 z D E HI u y;go_wp2_with (go_at_call 28;apply Hid.out);refine WhM HJ ?_;rintro e w2 ⟨rfl,h2,h3⟩;have H2:=hIx h2;have H3:=hIx h3;clear h2 h3;go_wp2;exact⟨H2.out,by rw[h4.out];exact H3.out⟩
