/- Lemmas for the last texts. -/
import Derived.Test.YtnnokglddolglaaGreatDoorM34
set_option maxHeartbeats 6400000
set_option maxRecDepth 100000
namespace Go.Proofs.YtnnokglddolglaaGreatDoor
open Go.RowKit Go.Proofs.Tryz
section
open Go.Lib
theorem zkG(base n c V:Nat)(A:Option Addr)(y m:List Value)(w:World)(a:base<=w.heap.size)(d:w.ownsRow base 42 9 (.slice A n c) n y)(L:n<=c)(O:c<=maxLen)
 (l:(n+1)*128<=140737488355328) (H:w.heap[V]? = some (.cells m.toArray 42 (0,0))) (p:m.length=9) (h2:∀u∈m,u.oneCell'=true):
 Calls prog 17 #[.slice A n c,.int .i64 (n:Int),.slice (some ⟨V,0,none⟩) 1 1] w (zgg base (.slice A n c) (y++m) (n+1) w):=by
 obtain⟨B,r,o,s,t⟩:=ZC zlQ
 have i:∀j u,m[j]? = some u->w.cell? ((⟨V,0,none⟩:Addr).add j)=some u:=λj u N=>by
  rw[Addr.add_lit,Zc,Qf _ _ _ _ _ _ H,<-N];simp
 have v:=λk q=>(QK d k q).1
 have D:=hIx i;have C:=hIx d;have E:=hIx v;have G:(c:Int)<=9223372036854775807:=by unfold maxLen at O;omega
 have z:A=none->n=0/\c=0:=λe=>by
  rcases d.2 with ⟨h,I⟩|⟨g,cap,K,h,_⟩
  ·injection h with _ _ F;exact⟨I,F⟩
  ·rw[e]at h;injection h with F;cases F
 have P:IntKind.i64.wrap (n:Int)=(n:Int):=by rw[IntKind.wrap_i64];omega
 clear i d v H;cases A with
 |none=>
  obtain⟨rfl,rfl⟩:=z rfl;clear z
  go_in
  go_wp2_with (at_builtin;refine wpList_append_own _ rfl _ _ 22 rfl base 42 B ruZ 9 128 underlying22 r o s t rfl (by decide) _ 0 y rfl C.out ⟨V,0,none⟩ 1 1 m rfl (by rw[p]) D.out h2 (by unfold maxLen;omega) l a ?_;intro v' w' x b _);go_ret;exact⟨v',rfl,x,(Qg _ _).grown b a E.out,λk q f=>b.block k q (λe=>f e.symm)⟩
 |some Q=>
  clear z
  by_cases J:c=n
  ·go_in
   go_wp2_with (at_builtin;refine wpList_append_own _ rfl _ _ 22 rfl base 42 B ruZ 9 128 underlying22 r o s t rfl (by decide) _ n y rfl C.out ⟨V,0,none⟩ 1 1 m rfl (by rw[p]) D.out h2 (by unfold maxLen;omega) l a ?_;intro v' w' x b _);go_ret;exact⟨v',rfl,x,(Qg _ _).grown b a E.out,λk q f=>b.block k q (λe=>f e.symm)⟩
  ·go_in
   go_wp2_with (at_builtin;refine wpList_append_own _ rfl _ _ 22 rfl base 42 B ruZ 9 128 underlying22 r o s t rfl (by decide) _ n y rfl C.out ⟨V,0,none⟩ 1 1 m rfl (by rw[p]) D.out h2 (by unfold maxLen;omega) l a ?_;intro v' w' x b _);go_ret;exact⟨v',rfl,x,(Qg _ _).grown b a E.out,λk q f=>b.block k q (λe=>f e.symm)⟩
theorem zrh(base n k V:Nat)(v:Value)(c f:List Value)(w:World)(a:base<=w.heap.size)(b:w.ownsRow base 42 9 v n c)(z:k<=n)
 (d:(n+1)*128<=140737488355328) (q:w.heap[V]? = some (.cells f.toArray 42 (0,0))) (s:v.ownBlock≠some V) (h:f.length=9) (h1:∀u∈c,u.oneCell'=true) (h2:∀u∈f,u.oneCell'=true):
 Calls prog 17 #[v,.int .i64 (k:Int),.slice (some ⟨V,0,none⟩) 1 1] w (zgg base v (c.take (k*9)++(f++c.drop (k*9))) (n+1) w):=by
 have r:=b.1
 have i:k=n->c.take (k*9)++(f++c.drop (k*9))=c++f:=λe=>by
  rw[e,<-r,QV,List.drop_length,QI]
 rcases b.2 with ⟨rfl,x⟩|⟨g,cap,o,rfl,hb,t,p,j,m,l⟩
 ·subst x
  obtain rfl:k=0:=by omega
  rw[i rfl];exact zkG base 0 0 V none c f w a b (Qd _) (Qm _) d q h h2
 ·by_cases e:k=n
  ·rw[i e,e]
   exact zkG base n cap V _ c f w a b p j d q h h2
  ·by_cases y:n+1<=cap
   ·exact zmv base g n cap k V o c f w hb t j m l (by omega) y q h (λe=>s (by rw[e];rfl)) h1 h2
   ·exact zn2 base g n cap k V o c f w a t m l (by omega) p (by omega) d q h h1 h2
end
theorem zzq:(prog.info? 42).map (λi=>(i.zero,i.size,i.bytes))=some (some (.agg #[.int .i64 0,.int .i64 0,.slice none 0 0,.slice none 0 0,.bool false,.int .i64 0,.string ByteArray.empty,.slice none 0 0,.bool false]),9,128):=by kernel_rfl
theorem zrk(A:Option Addr)(n c:Nat)(g:List Value)(w:World)(h:Sl w w.heap.size 9 A n g)(h1:∀u∈g,u.oneCell'=true)(H:n*128<=140737488355328):
 Calls prog 18 #[.slice A n c] w (zzw 42 9 n g w):=by
 obtain⟨D,E,m,q,s⟩:=ZC zzq;have x:=λ(w:World) (a:Option Addr) (n c:Nat)=>Lib.run_eql_slice_nil (P:=prog) w 22 42 a n c 0 0 underlying22
 cases A with
 |none=>
  have hl:=h.len
  have p:g=[]:=by
   rcases ZO g.length with o|o
   ·exact QA o
   ·obtain⟨b,t,e,_⟩:=h.src o;cases e
  subst p;have v:n=0:=by simp at hl;omega
  subst v
  go_in
  go_wp2;go_ret;exact⟨_,rfl,ZI w _ 42 9,Qg _ _⟩
 |some r=>
  have f:∀j u,g[j]? = some u->w.cell? (r.add j)=some u:=λj u l=>by
   have y:=(Qw.1 l).1;obtain⟨b,t,e,_,F⟩:=h.src (by omega);injection e with e
   subst e;rw[XP,F j y,<-l,Qc y]
  have d:∀j u,g[j]? = some u->(w.alloc (.cells #[] 42)).cell? (r.add j)=some u:=λj u l=>zaa WaL (f j u l)
  have C:=hIx d;have hl:=h.len;clear h f d
  go_in
  go_wp2_with (at_builtin;refine wpList_append_own _ rfl _ _ 22 rfl w.heap.size 42 D (.agg #[.int .i64 0,.int .i64 0,.slice none 0 0,.slice none 0 0,.bool false,.int .i64 0,.string ByteArray.empty,.slice none 0 0,.bool false]) 9 128 underlying22 E m q s rfl (by decide) (.slice (some ⟨w.heap.size,0,none⟩) 0 0) 0 [] rfl (Xw w #[] 0 (Qd _) (by decide) (by simp)) r n c g rfl hl C.out h1 (by unfold maxLen;omega) (by omega) (by simp) ?_;intro v' G i z _);go_ret;refine⟨_,rfl,by simpa using i,WaL.grown z (by simp) (λk B=>?_)⟩;simp[Value.ownBlock]at B;omega
theorem ziK(l:List RuM)(k:Nat)(a:k<=l.length):(l.flatMap zag).take (k*9)=(l.take k).flatMap zag/\(l.flatMap zag).drop (k*9)=(l.drop k).flatMap zag:=by
 have e:l.flatMap zag=(l.take k).flatMap zag++(l.drop k).flatMap zag:=by rw[<-Q4,Zm]
 have hl:((l.take k).flatMap zag).length=k*9:=by rw[zaS zag 9 (λ_=>rfl),Qz,Xb a]
 rw[e,<-hl];exact⟨XJ,ZH⟩
theorem zmA(l:List RuM)(x:RuM)(k:Nat)(a:k<=l.length):(l.flatMap zag).take (k*9)++(zag x++(l.flatMap zag).drop (k*9))=(l.take k++x::l.drop k).flatMap zag:=by
 rw[(ziK l k a).1,(ziK l k a).2,Q4,QM]
theorem zjM(x:RuM):∀u∈zag x,u.oneCell'=true:=λu a=>by
 simp only[zag,QJ,ZR,X0]at a
 rcases a with rfl|rfl|rfl|rfl|rfl|rfl|rfl|rfl|rfl <;> rfl
theorem zkF(l:List RuM):∀u∈l.flatMap zag,u.oneCell'=true:=λu a=>by
 obtain⟨x,_,a⟩:=List.mem_flatMap.1 a;exact zjM x u a
theorem own9{w:World}{base n:Nat}{v:Value}{b:List Value}(h:w.ownsRow base 42 9 v n b):∃A c,v=.slice A n c/\Sl w w.heap.size 9 A n b/\n<=c:=by
 rcases h.2 with ⟨h1,h2⟩|⟨g,cap,e,h1,hb,d,a,_⟩
 ·subst h2
  exact⟨none,0,h1,⟨h.1,λf=>by have:=h.1;omega⟩,Qd _⟩
 ·refine⟨_,_,h1,⟨h.1,λf=>⟨g,0,rfl,zaq d,λj i=>?_⟩⟩,a⟩
  have:=Zx (g:=g) h (by rw[h1];simp[Value.ownBlock]) j _ (Qc i);rw[zbq]at this;rw[Zc];exact this
theorem zhd(gK:Int)(a:RuArg)(m t b:ByteArray)(y:List zao)(A:Option Addr)(c N:Nat)(w:World)(h:RunIn a m t b y A N 40 w):
 Calls prog 4 #[a.value,.agg #[.string m,.string t,.slice A y.length c,.string b],.int .u32 (N:Int),.int .i64 gK] w (ztK w):=by
 obtain⟨K,hd⟩:∃K,((w.alloc (.cells #[.int .i64 a.most,.int .i64 a.status,.slice a.A a.l.length a.c] 24)).alloc (.cells #[.string m,.string t,.slice A y.length c,.string b] 29))=K:=⟨_,rfl⟩
 have kb:K.heap.size=w.heap.size+2:=by rw[<-hd];simp
 have Q:Below w.heap.size w K:=by rw[<-hd];exact WaL.alloc (by simp) _
 have hR:R3' K w.heap.size a.most a.status (.slice a.A a.l.length a.c):=by
  rw[<-hd];exact(Qt _ _ _ (by simp only[Qr];omega)).trans (Qp w _)
 have hQ:K.heap[w.heap.size+1]? = some (.cells #[.string m,.string t,.slice A y.length c,.string b] 29 (0,0)):=by
  rw[<-hd];exact zbo _ _ _ (by simp only[Qr])
 have gE:w.heap.size<K.heap.size:=by omega
 have gR:w.heap.size+1<K.heap.size:=by omega
 have h8:Hid (∀W,Below K.heap.size K W->R3' W w.heap.size a.most a.status (.slice a.A a.l.length a.c)/\W.heap[w.heap.size+1]? = some (.cells #[.string m,.string t,.slice A y.length c,.string b] 29 (0,0))/\Below w.heap.size w W):=hIx λW hb=>
  ⟨(hb.block _ gE).trans hR,(hb.block _ gR).trans hQ,Q.trans (hb.mono Q.size)⟩
 have g6:Hid (∀W,Below K.heap.size K W->Calls prog 7 #[.agg #[.int .i64 a.most,.int .i64 a.status,.slice a.A a.l.length a.c],.agg #[.string m,.string t,.slice A y.length c,.string b],.int .u32 (N:Int),.int .i64 40] W (zdf (runG a.set m t b y N 40) W)):=hIx λW hb=>by
  have u:=Q.trans (hb.mono Q.size);exact zgG a m t b y A c N 40 W ⟨h.lies.keep u u.size,h.bulk,(h.f.below u).more u.size,h.fz,h.fl,h.tz,h.bz,h.mz,h.cz,h.lib.below u,h.tab.below u⟩
 have g4:Hid (∀(x:RuArg) W,x.set=zaO->RuLies W W.heap.size x->zcx x->Below K.heap.size K W->Calls prog 7 #[x.value,.agg #[.string (.mk #[]),.string aT,.slice none 0 0,.string (.mk #[])],.int .u32 0,.int .i64 40] W (zdf (runG x.set (ByteArray.mk #[]) aT (ByteArray.mk #[]) [] 0 40) W)):=hIx λx W _ hl hs hb=>by
  have u:=Q.trans (hb.mono Q.size);exact zgG x (ByteArray.mk #[]) aT (ByteArray.mk #[]) [] none 0 0 40 W ⟨hl,hs,Sl.nil _ _ _ _,λf hf=>(by cases hf),by decide,by decide,by decide,by decide,by decide,h.lib.below u,h.tab.below u⟩
 have gc:Hid ((runG a.set m t b y N 40).1=0->zsh a (runG a.set m t b y N 40).2):=hIx (zuH a m t b y N 40);have gh:Hid (∀k,k<=a.l.length->(runG a.set m t b y N 40).1=0->a.l.length≠40->(a.l.map RuM.r).any badE=false->(∀(_:0<k) (h2:k-1<a.l.length),a.l[k-1].r.chain=false)->runG ⟨a.most,a.status,(a.l.map RuM.r).take k++zdl::(a.l.map RuM.r).drop k⟩ m t b y N 40=runG a.set m t b y N 40):=hIx λk h1 h2 h3 h4 h5=>zww a.most a.status (a.l.map RuM.r) k m t b y N 40 h2 (by rw[Qh];exact h1) (by rw[Qh];exact h3) h4 (λp q=>by rw[Qh]at q;rw[Zd];exact h5 p q)
 have gM:Hid ((runG a.set m t b y N 40).1≠0->(runG a.set m t b y N 40).2=run0):=hIx (zut a.set m t b y N 40);generalize runG a.set m t b y N 40=G at *;have HH:=hIx h;have hC:=hIx h.lies;have V:=hIx h.bulk;obtain⟨ms,i,AA,ca,l⟩:=a;dsimp only at *;have gV:=hIx hd;unfold RuArg.value;clear hd hR hQ h kb Q
 go_in
 go_upto_region 1 with fail
 rw[gV.out]
 go_cut [9,10]from 18 to 23 (λs7 s8 wx=>zte K s7 s8 wx)
 case first=>
  go_wp2_with (go_at_call 8;(with_reducible refine(zj2 _).mono ?_);rintro e w1 ⟨x,rfl,gg,gv,gn,hG⟩;have HF:=hIx (g4.out x w1 gg gv gn hG));go_wp2_with (go_at_call 7;apply Hid.out);refine WhM HF ?_;rintro e w2 ⟨kE,rfl,gb,ht⟩;obtain⟨f1,f2,f3⟩:=znb;rw[gg]at gb ⊢;obtain⟨Am,cm,rfl,_⟩:=gb.form;rw[f1];unfold verV;rw[f2,f3];have ha:∀o,Below K.heap.size K (w2.alloc o):=λo=>(hG.trans (ht.mono hG.size)).alloc (hG.trans (ht.mono hG.size)).size _
  clear gb f1 f2 f3 HF gg gv gn;generalize (runG zaO (ByteArray.mk #[]) aT (ByteArray.mk #[]) [] 0 40).2.mt.length=nm;go_wp2;go_meet;exact⟨w2.heap.size,_,_,rfl,rfl,Qp w2 _,ha _⟩
 case rest=>
  obtain⟨gf,kx,vf,rfl,rfl,gp,hh⟩:=hcut;have ⟨x0,x1,x2,x3⟩:=gp.four;have ⟨hS,hD,u⟩:=h8.out wc hh;have r0:wc.cell? ⟨w.heap.size,0,none⟩=some (.int .i64 ms):=Qf _ _ 0 _ _ _ hS;have r1:wc.cell? ⟨w.heap.size,1,none⟩=some (.int .i64 i):=Qf _ _ 1 _ _ _ hS;have r2:wc.cell? ⟨w.heap.size,2,none⟩=some (.slice AA l.length ca):=Qf _ _ 2 _ _ _ hS;have q0:wc.cell? ⟨w.heap.size+1,0,none⟩=some (.string m):=Qf _ _ 0 _ _ _ hD;have q1:wc.cell? ⟨w.heap.size+1,1,none⟩=some (.string t):=Qf _ _ 1 _ _ _ hD;have q2:wc.cell? ⟨w.heap.size+1,2,none⟩=some (.slice A y.length c):=Qf _ _ 2 _ _ _ hD;have q3:wc.cell? ⟨w.heap.size+1,3,none⟩=some (.string b):=Qf _ _ 3 _ _ _ hD;have HR:=hIx (g6.out wc hh);clear g4 g6 hS hD gV gp;go_wp2_with (go_at_call 7;apply Hid.out);refine WhM HR ?_;rintro e w2 ⟨mv,rfl,gw,ht⟩;obtain⟨Av,cv,rfl,hW,kv⟩:=zlj gw;obtain⟨g1,S⟩:=G;dsimp only at *;have hF:=hh.trans (ht.mono hh.size);clear r0 r1 r2 q0 q1 q2 q3 HR gw x0 x1 x2 x3;unfold verV;obtain⟨H,hL⟩:∃H,w2.alloc (.cells #[.int .i64 S.st,.int .i64 S.who,.int .i64 S.sc,.slice Av S.mt.length cv] 33)=H:=⟨_,rfl⟩
  have Z:Below w2.heap.size w2 H:=by rw[<-hL];exact WaL
  have T:V4 H w2.heap.size S.st S.who S.sc (.slice Av S.mt.length cv):=by rw[<-hL];exact Qp w2 _
  have ha:=hF.trans (Z.mono hF.size);have k8:w2.heap.size<H.heap.size:=zaq T;have I:=(hW.below Z).more Z.size;have ⟨g7,_,z⟩:=h8.out H ha;have hK:=hIx hL;clear hL Z hW
  by_cases hc:g1=0
  rotate_left
  ·have n0:(g1 != 0)=true:=Q6.2 hc
   have gd:=hIx z;clear hc gM gc g7 T I z;go_upto_region 5 with fail
   rw[hK.out];go_wp2;go_ret;exact⟨rfl,gd.out⟩
  ·subst hc
   have HP:=hIx (gc.out rfl);have kr:l.length<=40:=HP.out.len
   have n:Hid (∀W,Below H.heap.size H W->Below w.heap.size w W/\R3' W w.heap.size ms i (.slice AA l.length ca)/\W.heap[w.heap.size+1]? = some (.cells #[.string m,.string t,.slice A y.length c,.string b] 29 (0,0))/\V4 W w2.heap.size S.st S.who S.sc (.slice Av S.mt.length cv)/\Sl W W.heap.size 1 Av S.mt.length (S.mt.map (Value.int .i64))):=hIx λW hb=>by
    have h1:=h8.out W (ha.trans (hb.mono ha.size));exact⟨z.trans (hb.mono z.size),h1.1,h1.2.1,(hb.block _ k8).trans T,(I.below hb).more hb.size⟩
   have hr:Hid (∀W,Below H.heap.size H W->RuLies W W.heap.size ⟨ms,i,AA,ca,l⟩):=hIx λW hb=>by
    have u:=(n.out W hb).1;exact hC.out.keep u u.size
   have k2:Hid (S.mt.length<=40):=HP.out.mt;have gF:=hIx (zxc l AA ca H (hr.out H (Qg _ _)).sl (hr.out H (Qg _ _)).all V.out.all V.out.len);have gd:=hIx z;have z2:H.cell? ⟨w.heap.size,2,none⟩=some (.slice AA l.length ca):=Qf _ _ 2 _ _ _ g7;clear gM gc g7 h8 hC T I z ha hF hh ht HP
   by_cases gW:l.length=40
   ·have km:((l.length:Int)==40)=true:=by rw[Zk];omega
    clear gW kr;go_upto_region 5 with fail
    rw[hK.out];go_wp2;go_ret;exact⟨rfl,gd.out⟩
   have km:((l.length:Int)==40)=false:=Qb.2 (by omega);go_upto_region 5 with fail
   rw[hK.out];clear hK;go_wp2_with (go_at_call 11;apply Hid.out);refine WhM gF ?_;rintro e w4 ⟨rfl,hg⟩;clear gF;obtain⟨hV,hO,kt,ko,gL⟩:=n.out w4 hg;cases hB:(l.map RuM.r).any badE with
   |true=>
    clear hB;go_wp2;go_ret;exact⟨rfl,hV⟩
   |false=>
    have gN:=hIx hB;clear hB;have y0:w4.cell? ⟨w.heap.size,0,none⟩=some (.int .i64 ms):=Qf _ _ 0 _ _ _ hO;have y1:w4.cell? ⟨w.heap.size,1,none⟩=some (.int .i64 i):=Qf _ _ 1 _ _ _ hO;have y2:w4.cell? ⟨w.heap.size,2,none⟩=some (.slice AA l.length ca):=Qf _ _ 2 _ _ _ hO;have k0:=hIx (zs2 gK ((l.length:Int)+1) w4 (by omega) (by omega));have i7:IntKind.i64.wrap ((l.length:Int)+1)=(l.length:Int)+1:=Qx _ (by omega);go_wp2_with (go_at_call 16;apply Hid.out);refine WhM k0 ?_;rintro e w5 ⟨j,rfl,hj,kh⟩;subst kh;have g8:j<=l.length:=by omega
    clear k0;obtain⟨ch,E⟩:∃ch:Bool,ch=if 0<j then (l.getD (j-1) dRu).r.chain else false:=⟨_,rfl⟩
    have ga:=hIx E;go_upto_region 8 with fail
    go_cut [67]from 57 to 67 (λs wx=>s=.bool ch/\wx=w5)
    case first=>
     by_cases gx:0<j
     ·have gT:j-1<l.length:=by omega
      rw[Qi gx,Qk,Qc gT]at E;have E:ch=l[j-1].r.chain:=E;obtain⟨b',ke,eA,_,gJ⟩:=zpl (hr.out w5 hg).sl (j-1) (by omega);have c8:=gJ 8 (by decide) _ rfl;have kg:=hIx E;obtain⟨j',rfl⟩:∃j',j=j'+1:=⟨j-1,by omega⟩
      have eA:AA=some ⟨b',ke,none⟩:=eA;subst eA;have d0:decide ((0:Int)<((j'+1:Nat):Int))=true:=Qu (by omega);have kD:decide ((0:Int)<(j':Int)+1)=true:=Qu (by omega);have d1:j'<l.length:=by omega
      have i8:IntKind.i64.wrap (j':Int)=(j':Int):=Qx _ (by omega);simp only[Nat.add_sub_cancel]at c8;clear E gJ;go_wp2;go_meet;exact⟨by rw[kg.out];rfl,rfl⟩
     ·rw[Qe gx]at E
      have ka:j=0:=by omega
      subst ka;clear E;go_wp2;go_meet;exact⟨by rw[ga.out];rfl,rfl⟩
    case rest=>
     obtain⟨rfl,kp⟩:=hcut;subst kp;clear E;obtain⟨gU,kq,ks,kc,gD⟩:=n.out wc hg;cases ch with
     |true=>
      go_wp2;go_ret;exact⟨rfl,gU⟩
     |false=>
      obtain⟨wb,hI⟩:∃wb,wc.alloc (.cells #[.int .i64 ms,.int .i64 i,.slice AA l.length ca] 24)=wb:=⟨_,rfl⟩
      have gt:Below wc.heap.size wc wb:=by rw[<-hI];exact WaL
      have gj:R3' wb wc.heap.size ms i (.slice AA l.length ca):=by rw[<-hI];exact Qp wc _
      have k9:wc.heap.size<wb.heap.size:=zaq gj;have hq:=hg.trans (gt.mono hg.size);obtain⟨gs,gP,ki,ku,gy⟩:=n.out wb hq;have b2:wb.cell? ⟨w.heap.size,2,none⟩=some (.slice AA l.length ca):=Qf _ _ 2 _ _ _ gP;have gZ:=hIx (zrk AA l.length ca (l.flatMap zag) wb (hr.out wb hq).sl (zkF l) (by omega));have gI:=hIx hI;have g2:=hIx hq;have k5:=hIx gj;clear hI gt gj gP ki ku gy kq ks kc gD hO kt ko gL hV gs;go_upto_region 11 with fail
      rw[gI.out];clear gI;go_wp2_with (go_at_call 18;apply Hid.out);refine WhM gZ ?_;rintro e P ⟨v6,rfl,hN,ge⟩;clear gZ;have kB:=ge.size;obtain⟨A6,c6,rfl,gu,kj⟩:=own9 hN;obtain⟨w7,he⟩:∃w7,(P.alloc (.cells #[.int .i64 1,.int .i64 0,.string (.mk #[])] 55)).alloc (.cells #[.int .i64 2,.int .i64 500] 44)=w7:=⟨_,rfl⟩
      have hz:=QK hN;have gG:w7.heap[P.heap.size]? = some (.cells #[.int .i64 1,.int .i64 0,.string (.mk #[])] 55 (0,0)):=by rw[<-he];exact(Qt _ _ _ (by simp)).trans (Qp P _)
      have gz:w7.heap[P.heap.size+1]? = some (.cells #[.int .i64 2,.int .i64 500] 44 (0,0)):=by rw[<-he];exact zbo _ _ _ (by simp)
      have kk:w7.heap.size=P.heap.size+2:=by rw[<-he];simp
      have hp:Below P.heap.size P w7:=by rw[<-he];exact WaL.alloc (by simp) _
      obtain⟨X,hX⟩:∃X:RuM,X=⟨zdl,some ⟨P.heap.size,0,none⟩,1,none,0,some ⟨P.heap.size+1,0,none⟩,1⟩:=⟨_,rfl⟩
      have gq:(zag X).toArray=#[.int .i64 9999,.int .i64 1,.slice (some ⟨P.heap.size,0,none⟩) 1 1,.slice none 0 0,.bool true,.int .i64 12,.string (.mk #[]),.slice (some ⟨P.heap.size+1,0,none⟩) 1 1,.bool false]:=by rw[hX];rfl
      obtain⟨w8,hJ⟩:∃w8,w7.alloc (.cells #[.int .i64 9999,.int .i64 1,.slice (some ⟨P.heap.size,0,none⟩) 1 1,.slice none 0 0,.bool true,.int .i64 12,.string (.mk #[]),.slice (some ⟨P.heap.size+1,0,none⟩) 1 1,.bool false] 42)=w8:=⟨_,rfl⟩
      have gA:w8.heap[w7.heap.size]? = some (.cells (zag X).toArray 42 (0,0)):=by rw[<-hJ,gq];exact Qp w7 _
      have L:Below w7.heap.size w7 w8:=by rw[<-hJ];exact WaL
      have h6:=hp.trans (L.mono hp.size);have gO:=zaP hN h6;have kw:=h6.size;have g0:=hIx (zrh wb.heap.size l.length j w7.heap.size (.slice A6 l.length c6) (l.flatMap zag) (zag X) w8 (by omega) gO g8 (by omega) gA (λe=>by have:=(hz _ e).2;omega) rfl (zkF l) (zjM X));have gC:=hIx hJ;have k4:=hIx he;have k6:=hIx ((L.block _ (by omega)).trans gG);have kd:=hIx ((L.block _ (by omega)).trans gz);have gQ:=hIx h6;have gB:=hIx ge;have hY:=hIx hz;have gY:P.heap.size+1<w8.heap.size:=by have:=L.size;omega
      clear hJ gG gz gq gA L h6 gO hp hz hN gu kk ge;go_wp2_with (go_at_call 17;apply Hid.out);rw[gC.out];refine WhM g0 ?_;rintro e w9 ⟨v9,rfl,ho,gH,gX⟩;rw[zmA l X j g8]at ho;obtain⟨A9,c9,rfl,_,gi⟩:=own9 ho;have g5:Below wb.heap.size wb w9:=(gB.out.trans (gQ.out.mono gB.out.size)).trans gH;have h9:R3' w9 wc.heap.size ms i (.slice AA l.length ca):=(g5.block _ k9).trans k5.out;have q0:w9.cell? ⟨wc.heap.size,0,none⟩=some (.int .i64 ms):=Qf _ _ 0 _ _ _ h9;have q1:w9.cell? ⟨wc.heap.size,1,none⟩=some (.int .i64 i):=Qf _ _ 1 _ _ _ h9;have q2:w9.cell? ⟨wc.heap.size,2,none⟩=some (.slice AA l.length ca):=Qf _ _ 2 _ _ _ h9;have f2:w9.frozen? ⟨wc.heap.size,2,none⟩=false:=ZJ _ _ 2 _ _ h9;clear g0 gC he k4;go_upto_region 12 with fail
      obtain⟨d,B⟩:∃d,w9.setCell ⟨wc.heap.size,2,none⟩ (.slice A9 (l.length+1) c9)=d:=⟨_,rfl⟩
      have h7:R3' d wc.heap.size ms i (.slice A9 (l.length+1) c9):=by rw[<-B];exact Q2 w9 wc.heap.size 2 _ _ _ h9
      have hm:∀k,k≠wc.heap.size->d.heap[k]? = w9.heap[k]? := λk hk=>by rw[<-B];exact Ql _ _ _ _ hk
      have gS:d.heap.size=w9.heap.size:=by rw[<-B,Z0]
      have D:Below H.heap.size H d:=by rw[<-B];exact(g2.out.trans (g5.mono g2.out.size)).setCell (p:=⟨wc.heap.size,2,none⟩) hg.size _
      obtain⟨F,_,J,kz,k3⟩:=n.out d D
      have hU:d.ownsRow wb.heap.size 42 9 (.slice A9 (l.length+1) c9) (l.length+1) ((l.take j++X::l.drop j).flatMap zag):=by
       refine⟨ho.1,?_⟩
       rcases ho.2 with h0|⟨g,cap,k7,h1,h2,h3,h4⟩
       ·exact .inl h0
       ·exact .inr ⟨g,cap,k7,h1,h2,(hm g (by omega)).trans h3,h4⟩
      obtain⟨kC,kA,kl,U,hP⟩:=own9 hU;injection kl with ea eb ec
      subst ea;subst ec
      have hi:(l.take j++X::l.drop j).length=l.length+1:=by rw[Qa,Qo,Qz,QF];omega
      have hE:∀k,k<w8.heap.size->(Value.slice A6 l.length c6).ownBlock≠some k->k≠wc.heap.size->d.heap[k]? = w8.heap[k]? := λk h1 h2 h3=>(hm k h3).trans (gX k h1 h2)
      have ky:=gH.size;have gr:X.r=zdl:=by rw[hX]
      have gm:∀x∈l.take j++X::l.drop j,RuIn d d.heap.size x/\ze7 x.r:=λx O=>by
       have kf:x=X\/x∈l:=by
        rcases QN.1 O with O|O
        ·exact .inr (ZK O)
        ·rcases QJ.1 O with O|O
         ·exact .inl O
         ·exact .inr (List.mem_of_mem_drop O)
       rcases kf with e|O
       ·rw[e,hX]
        have r6:=(hE P.heap.size (by omega) (λe=>by have:=(hY.out _ e).2;omega) (by omega)).trans k6.out;have r7:=(hE (P.heap.size+1) gY (λe=>by have:=(hY.out _ e).2;omega) (by omega)).trans kd.out;exact⟨⟨zcL r6 (zaq r6) rfl,Sl.nil _ _ _ _,zcL r7 (zaq r7) rfl⟩,⟨by show 1<=1048576;decide,λv hv=>by rw[QE.1 hv];show 0<=1048576;decide,by show 0<=1048576;decide,by show 0<=1048576;decide,by show 1<=1048576;decide⟩⟩
       ·exact⟨(hr.out d D).all x O,V.out.all x O⟩
      have hZ:(⟨ms,i,A9,c9,l.take j++X::l.drop j⟩:RuArg).set=⟨ms,i,(l.map RuM.r).take j++zdl::(l.map RuM.r).drop j⟩:=by
       show (⟨ms,i,(l.take j++X::l.drop j).map RuM.r⟩:zd4)=_
       rw[QU,QX,List.map_take,List.map_drop,gr]
      have hn:=gh.out j g8 trivial gW gN.out (λh1 h2=>by
       have:=ga.out;rw[Qi h1,Qk,Qc h2]at this;exact this.symm)
      have C:=zgG ⟨ms,i,A9,c9,l.take j++X::l.drop j⟩ m t b y A c N 40 d
       ⟨⟨by rw[<-hi]at U;exact U,λx O=>(gm x O).1,by show (l.take j++X::l.drop j).length<=c9;omega⟩,⟨by show (l.take j++X::l.drop j).length<=1048576;omega,λx O=>(gm x O).2⟩,(HH.out.f.below F).more F.size,HH.out.fz,HH.out.fl,HH.out.tz,HH.out.bz,HH.out.mz,HH.out.cz,HH.out.lib.below F,HH.out.tab.below F⟩
      rw[hZ,hn]at C;unfold RuArg.value at C;dsimp only at C;rw[hi]at C;have g9:=hIx C;have p0:d.cell? ⟨wc.heap.size,0,none⟩=some (.int .i64 ms):=Qf _ _ 0 _ _ _ h7;have p1:d.cell? ⟨wc.heap.size,1,none⟩=some (.int .i64 i):=Qf _ _ 1 _ _ _ h7;have p2:d.cell? ⟨wc.heap.size,2,none⟩=some (.slice A9 (l.length+1) c9):=Qf _ _ 2 _ _ _ h7;have u0:d.cell? ⟨w.heap.size+1,0,none⟩=some (.string m):=Qf _ _ 0 _ _ _ J;have u1:d.cell? ⟨w.heap.size+1,1,none⟩=some (.string t):=Qf _ _ 1 _ _ _ J;have u2:d.cell? ⟨w.heap.size+1,2,none⟩=some (.slice A y.length c):=Qf _ _ 2 _ _ _ J;have u3:d.cell? ⟨w.heap.size+1,3,none⟩=some (.string b):=Qf _ _ 3 _ _ _ J;rw[B];clear B h7 hm gS hU U hP hi hE gr gm hZ hn C q0 q1 q2 f2 h9 ho gX hX ga J eb gi;go_wp2_with (go_at_call 7;apply Hid.out);refine WhM g9 ?_;rintro e hy ⟨mu,rfl,hw,hT⟩;dsimp only at hw;obtain⟨Au,cu,rfl,gl,_⟩:=zlj hw;dsimp only;unfold verV;obtain⟨Y,hH⟩:∃Y,hy.alloc (.cells #[.int .i64 S.st,.int .i64 S.who,.int .i64 S.sc,.slice Au S.mt.length cu] 33)=Y:=⟨_,rfl⟩
      have hA:Below hy.heap.size hy Y:=by rw[<-hH];exact WaL
      have g3:V4 Y hy.heap.size S.st S.who S.sc (.slice Au S.mt.length cu):=by rw[<-hH];exact Qp hy _
      have gk:Below H.heap.size H Y:=D.trans ((hT.trans (hA.mono hT.size)).mono D.size);obtain⟨hu,_,_,T,I⟩:=n.out Y gk;have ⟨s0,s1,s2,s3⟩:=T.four;have ⟨t0,t1,t2,t3⟩:=g3.four;have kn:=hIx (zi4 S.st S.who S.sc S.st S.who S.sc Au Av S.mt.length cu S.mt.length cv S.mt S.mt Y ((gl.below hA).more hA.size) I (by have:=k2.out;omega) (by have:=k2.out;omega));clear p0 p1 p2 u0 u1 u2 u3 hw g3 T;go_upto_region 13 with fail
      clear hH;go_wp2_with (go_at_call 9;apply Hid.out);refine WhM kn ?_;rintro e kF ⟨rfl,k1⟩;go_wp2;go_ret;exact⟨by simp,hu.trans (k1.mono hu.size)⟩
theorem zi3(a:RuArg)(q:RqV)(f d:Int)(w:World){k j:Value}(o:zfr w k a)(n:zcx a)(y:zp9 w j q)(i:ziL q/\znu q)(p:0<=f/\f<=4294967295)(_:-9223372036854775808<=d/\d<=9223372036854775807)(g:LibOk w)
 (l:Lib.TabIs prog w "internal/strconv.uint64pow10" .u64 Lib.pow10Tab):
 Calls prog 4 #[a.value,.agg #[.string q.m,.string q.t,.slice q.A q.fs.length q.c,.string q.b],.int .u32 f,.int .i64 d] w λe w'=>e=.returned (.bool true)/\Below w.heap.size w w':=by
 have h:=zhd d a q.m q.t q.b q.fs q.A q.c f.toNat w (zxm a q f.toNat w o n y i (by omega) g l);rw[show ((f.toNat:Nat):Int)=f by omega]at h;exact h
