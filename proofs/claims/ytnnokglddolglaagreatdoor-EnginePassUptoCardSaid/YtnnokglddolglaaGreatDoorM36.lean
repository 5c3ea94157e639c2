/- Lemmas for the last texts. -/
import Derived.Test.YtnnokglddolglaaGreatDoorM33
set_option maxHeartbeats 6400000
set_option maxRecDepth 100000
namespace Go.Proofs
open Go.Shelf
theorem Tryz.lays107:Go.Proofs.Lays.n107 Tryz.prog Tryz.lays107_ren:=by constructor<;>first|kernel_rfl|(intro _;kernel_rfl)
open Go.Lib in
theorem Tryz.slices_Contains_int(b a n c:Nat)(d:List Int)(x:Int)(w:World)(h:n<=d.length)(f:n<=9223372036854775807)(g:∀j,j<d.length->w.cell? ⟨b,a+j,none⟩=some (.int .i64 (d.getD j 0))):
 Calls Tryz.prog 10 #[.slice (some ⟨b,a,none⟩) n c,.int .i64 x] w λe w'=>e=.returned (.bool ((d.take n).contains x))/\w'=w:=Any.slices_Contains_int Tryz.lays107 b a n c d x w h f g
open Go.Lib in
theorem Tryz.slices_Contains_int_empty(a:Option Addr)(c:Nat)(x:Int)(w:World):
 Calls Tryz.prog 10 #[.slice a 0 c,.int .i64 x] w λe w'=>e=.returned (.bool false)/\w'=w:=Any.slices_Contains_int_empty Tryz.lays107 a c x w
end Go.Proofs
namespace Go.Proofs.YtnnokglddolglaaGreatDoor
open Go.RowKit
theorem zqT(r:zai):zaK [r]=zeX r:=by show zeX r+0=zeX r;omega
theorem zt3(b i f e l j h n c:Value)(y a:Int)(g:Nat)(w:World)(d:b=.int .i64 y)(k:g<w.heap.size)(q:w.cell? ⟨g,0,none⟩=some (.int .i64 a)):
 Calls Tryz.prog 12 #[.agg #[b,i,f,e,l,j,h,n,c],.pointer (some ⟨g,0,none⟩)] w (zal (y==a) w):=by
 subst d;have m:∀o,(w.alloc o).cell? ⟨g,0,none⟩=some (.int .i64 a):=λo=>(((Qg _ _).alloc (Qd _) o).cell (p:=⟨g,0,none⟩) k).trans q
 go_in
 go_wp2;go_ret;exact⟨rfl,WaL⟩
theorem zue(l:List RuM)(e:Int)(A:Option Addr)(c g:Nat)(w:World)(h:Sl w w.heap.size 9 A l.length (l.flatMap zag))(hl:l.length<=1048576)(m:g<w.heap.size)(o:w.cell? ⟨g,0,none⟩=some (.int .i64 e)):
 Calls Tryz.prog 11 #[.slice A l.length c,.func (.func 12) #[] #[.pointer (some ⟨g,0,none⟩)]] w (zal ((l.map RuM.r).any λy=>y.id==e) w):=by
 have n:anyN (λj=>(l.getD j dRu).r.id==e) l.length=((l.map RuM.r).any λy=>y.id==e):=by
  rw[zcp (λy:RuM=>y.r.id==e) l dRu,List.any_map];rfl
 rw[<-n];have k:=zaS zag 9 (λ_=>rfl) l
 have a:∀j i,j<l.length->i<9->(l.flatMap zag)[j*9+i]? = some ((l.flatMap zag).getD (j*9+i) undef):=λj i b q=>by
  rw[Qk,Qc (by rw[k];omega)];rfl
 generalize f:l.flatMap zag=d at *;refine zgH 12 #[.pointer (some ⟨g,0,none⟩)] (enters_of Tryz.func12 (by kernel_rfl) rfl) A l.length c d (λj=>d.getD (j*9) undef) (λj=>d.getD (j*9+1) undef) (λj=>d.getD (j*9+2) undef) (λj=>d.getD (j*9+3) undef) (λj=>d.getD (j*9+4) undef) (λj=>d.getD (j*9+5) undef) (λj=>d.getD (j*9+6) undef) (λj=>d.getD (j*9+7) undef) (λj=>d.getD (j*9+8) undef) _ w h (by omega) (λj b=>?_) (λW j b hb=>?_)
 ·exact⟨a j 0 b (by decide),a j 1 b (by decide),a j 2 b (by decide),a j 3 b (by decide),a j 4 b (by decide),a j 5 b (by decide),a j 6 b (by decide),a j 7 b (by decide),a j 8 b (by decide)⟩
 ·refine zt3 _ _ _ _ _ _ _ _ _ (l.getD j dRu).r.id e g W ?_ (Qv m hb.size) ((hb.cell (p:=⟨g,0,none⟩) m).trans o)
  have h1:=zbM zag 9 (λ_=>rfl) l j 0 b (by decide);have h2:l.getD j dRu=l[j]:=by rw[Qk,Qc b];rfl
  rw[f,Xj]at h1;rw[h2,Qk,h1]
  rfl
theorem zmr{w:World}{B n:Nat}{A:Option Addr}{f:List Int}(c:Nat)(x:Int)(h:Sl w B 1 A n (f.map (Value.int .i64)))(a:n<=9223372036854775807):
 Calls Tryz.prog 10 #[.slice A n c,.int .i64 x] w λe w'=>e=.returned (.bool (f.contains x))/\w'=w:=by
 have i:=h.len;rw[Qh]at i
 rcases ZO n with rfl|g
 ·rw[h.izero]
  exact Tryz.slices_Contains_int_empty A c x w
 ·obtain⟨b,d,rfl,k,j⟩:=h.icells g
  have:=Tryz.slices_Contains_int b d n c f x w (by omega) a j;rw[QC (by omega)]at this;exact this
def zfb(l:List zbV):Int:=sumI (l.map zbB)
theorem zrc(l:List zbV)(k:Nat)(h:k<l.length):zfb (l.take (k+1))=zfb (l.take k)+zbB l[k]:=by
 unfold zfb;rw[Qq h,QU,zff];show _+(zbB l[k]+0)=_
 omega
theorem zrx(l:List zbV)(k:Nat)(h:k<l.length):zh6 (l.take (k+1))=(zh6 (l.take k)||l[k].k==2):=by
 unfold zh6;rw[Qq h,List.any_append,List.any_cons,List.any_nil,Bool.or_false]
theorem zoG(l:List zai)(k:Nat)(h:k<l.length):zaK (l.take (k+1))=zaK (l.take k)+zfb l[k].acts:=by
 rw[Qq h,zdJ,zqT]
 rfl
theorem zqI(l:List zai)(k:Nat)(h:k<l.length):zjC (l.take (k+1))=(zjC (l.take k)||zh6 l[k].acts):=by
 unfold zjC;rw[Qq h,List.any_append,List.any_cons,List.any_nil,Bool.or_false]
theorem zpF(l:List zbV)(h:∀a∈l,0<=a.n/\a.n<=1000):0<=zfb l/\zfb l<=1000*l.length:=by
 induction l with
 |nil=>exact⟨Zw _,Zw _⟩
 |cons a r ih=>
  have h1:=h a (Q7 ..);have h2:=ih λx b=>h x (Q3 _ b)
  have e:zfb (a::r)=zbB a+zfb r:=rfl;have c:0<=zbB a/\zbB a<=1000:=by unfold zbB;split <;> omega
  rw[e,Qo];omega
theorem zr9(l:List zai)(h:ActsOk l)(c:∀r∈l,r.acts.length<=1048576):0<=zaK l/\zaK l<=1048576000*l.length:=by
 induction l with
 |nil=>exact⟨Zw _,Zw _⟩
 |cons a r ih=>
  have h1:=zpF a.acts (h a (Q7 ..));have d:=c a (Q7 ..);have h2:=ih (λx b=>h x (Q3 _ b)) λx b=>c x (Q3 _ b)
  have e:zaK (a::r)=zfb a.acts+zaK r:=rfl;rw[e,Qo];omega
theorem zlC{a:Type}{P:a->Prop}{l:List a}(h:∀x∈l,P x)(k:Nat):∀x∈l.take k,P x:=λx b=>h x (ZK b)
theorem zol{l:List Int}(h:l.Nodup)(k:Nat)(b:k<l.length):(l.take k).contains l[k]=false:=by
 rw[Bool.eq_false_iff];intro d;have a:=List.contains_iff_mem.1 d;obtain⟨j,c,e⟩:=Z4 a;rw[List.getElem_take]at e;rw[Qz]at c;have:=(List.nodup_iff_pairwise_ne.1 h)
 have h2:=List.pairwise_iff_getElem.1 this j k (by omega) b (by omega);exact h2 e
def PL1(l:List zai)(a:World)(v d i:Value)(wr:World):Prop:=∃k,k<=l.length/\i=.int .i64 (k:Int)/\v=.int .i64 (zaK (l.take k))/\d=.bool (zjC (l.take k))/\Below a.heap.size a wr
def PL2(l:List zbV)(s:Int)(b:Bool)(a:World)(v d i:Value)(wr:World):Prop:=∃k,k<=l.length/\i=.int .i64 (k:Int)/\v=.int .i64 (s+zfb (l.take k))/\d=.bool (b||zh6 (l.take k))/\Below a.heap.size a wr
def PL3(n:Nat)(a:World)(i:Value)(wr:World):Prop:=∃k:Nat,k<=n/\i=.int .i64 (k:Int)/\Below a.heap.size a wr
theorem Sl.ifront{w:World}{B n:Nat}{A:Option Addr}{c:List Int}(h:Sl w B 1 A n (c.map (Value.int .i64)))(k:Nat)(i:k<=c.length):Sl w B 1 A k ((c.take k).map (Value.int .i64)):=by
 refine⟨by rw[Qh,Qz];omega,λd=>?_⟩;rw[Qh,Qz]at d;obtain⟨b,a,e,hb,g⟩:=h.src (by rw[Qh];omega);refine⟨b,a,e,hb,λj f=>?_⟩;rw[Qh,Qz]at f;rw[g j (by rw[Qh];omega)];simp only[Zd,List.getElem_take]
theorem zi6(a:RuArg)(m t b:ByteArray)(K:List zao)(A:Option Addr)(c cl:Nat)(w:World)(h:RunIn a m t b K A cl 40 w):
 Calls Tryz.prog 3 #[a.value,.agg #[.string m,.string t,.slice A K.length c,.string b],.int .u32 (cl:Int)] w (ztK w):=by
 obtain⟨J,Y⟩:∃J,((w.alloc (.cells #[.int .i64 a.most,.int .i64 a.status,.slice a.A a.l.length a.c] 24)).alloc (.cells #[.string m,.string t,.slice A K.length c,.string b] 29))=J:=⟨_,rfl⟩
 have gH:J.heap.size=w.heap.size+2:=by rw[<-Y];simp
 have N:Below w.heap.size w J:=by rw[<-Y];exact WaL.alloc (by simp) _
 have hR:R3' J w.heap.size a.most a.status (.slice a.A a.l.length a.c):=by
  rw[<-Y];exact(Qt _ _ _ (by simp only[Qr];omega)).trans (Qp w _)
 have hQ:J.heap[w.heap.size+1]? = some (.cells #[.string m,.string t,.slice A K.length c,.string b] 29 (0,0)):=by
  rw[<-Y];exact zbo _ _ _ (by simp only[Qr])
 have gj:w.heap.size<J.heap.size:=by omega
 have gy:w.heap.size+1<J.heap.size:=by omega
 have U:Hid (∀W,Below J.heap.size J W->R3' W w.heap.size a.most a.status (.slice a.A a.l.length a.c)/\W.heap[w.heap.size+1]? = some (.cells #[.string m,.string t,.slice A K.length c,.string b] 29 (0,0))/\Below w.heap.size w W):=hIx λW hb=>
  ⟨(hb.block _ gj).trans hR,(hb.block _ gy).trans hQ,N.trans (hb.mono N.size)⟩
 have hI:Hid (∀W,Below J.heap.size J W->Calls Tryz.prog 7 #[.agg #[.int .i64 a.most,.int .i64 a.status,.slice a.A a.l.length a.c],.agg #[.string m,.string t,.slice A K.length c,.string b],.int .u32 (cl:Int),.int .i64 40] W (zdf (runG a.set m t b K cl 40) W)):=hIx λW hb=>by
  have n:=N.trans (hb.mono N.size);exact zgG a m t b K A c cl 40 W ⟨h.lies.keep n n.size,h.bulk,(h.f.below n).more n.size,h.fz,h.fl,h.tz,h.bz,h.mz,h.cz,h.lib.below n,h.tab.below n⟩
 have hF:Hid (∀(x:RuArg) W,x.set=zaO->RuLies W W.heap.size x->zcx x->Below J.heap.size J W->Calls Tryz.prog 7 #[x.value,.agg #[.string (.mk #[]),.string aT,.slice none 0 0,.string (.mk #[])],.int .u32 0,.int .i64 40] W (zdf (runG x.set (ByteArray.mk #[]) aT (ByteArray.mk #[]) [] 0 40) W)):=hIx λx W _ hl hs hb=>by
  have n:=N.trans (hb.mono N.size);exact zgG x (ByteArray.mk #[]) aT (ByteArray.mk #[]) [] none 0 0 40 W ⟨hl,hs,Sl.nil _ _ _ _,λf hf=>(by cases hf),by decide,by decide,by decide,by decide,by decide,h.lib.below n,h.tab.below n⟩
 have hV:Hid ((runG a.set m t b K cl 40).1=0->zsh a (runG a.set m t b K cl 40).2):=hIx (zuH a m t b K cl 40);have hU:Hid ((runG a.set m t b K cl 40).1≠0->(runG a.set m t b K cl 40).2=run0):=hIx (zut a.set m t b K cl 40);generalize runG a.set m t b K cl 40=G at *;have hd:=hIx h.lies;have O:=hIx h.bulk;obtain⟨ms,gg,AA,ca,l⟩:=a;dsimp only at *;have gz:=hIx Y;unfold RuArg.value;clear Y hR hQ h gH N
 go_in
 go_upto_region 1 with fail
 rw[gz.out]
 go_cut [7,8]from 20 to 25 (λs7 s8 wx=>zte J s7 s8 wx)
 case first=>
  go_wp2_with (go_at_call 8;(with_reducible refine(zj2 _).mono ?_);rintro e w1 ⟨x,rfl,hY,gc,g4,hh⟩;have HF:=hIx (hF.out x w1 hY gc g4 hh));go_wp2_with (go_at_call 7;apply Hid.out);refine WhM HF ?_;rintro e w2 ⟨gX,rfl,hP,h8⟩;obtain⟨f1,f2,f3⟩:=znb;rw[hY]at hP ⊢;obtain⟨Am,cm,rfl,_⟩:=hP.form;rw[f1];unfold verV;rw[f2,f3];have V:∀o,Below J.heap.size J (w2.alloc o):=λo=>(hh.trans (h8.mono hh.size)).alloc (hh.trans (h8.mono hh.size)).size _
  clear hP f1 f2 f3 HF hY gc g4;generalize (runG zaO (ByteArray.mk #[]) aT (ByteArray.mk #[]) [] 0 40).2.mt.length=nm;go_wp2;go_meet;exact⟨w2.heap.size,_,_,rfl,rfl,Qp w2 _,V _⟩
 case rest=>
  obtain⟨gf,gR,vf,rfl,rfl,g5,h5⟩:=hcut;have ⟨x0,x1,x2,x3⟩:=g5.four;have ⟨hA,he,n⟩:=U.out wc h5;have r0:wc.cell? ⟨w.heap.size,0,none⟩=some (.int .i64 ms):=Qf _ _ 0 _ _ _ hA;have r1:wc.cell? ⟨w.heap.size,1,none⟩=some (.int .i64 gg):=Qf _ _ 1 _ _ _ hA;have r2:wc.cell? ⟨w.heap.size,2,none⟩=some (.slice AA l.length ca):=Qf _ _ 2 _ _ _ hA;have q0:wc.cell? ⟨w.heap.size+1,0,none⟩=some (.string m):=Qf _ _ 0 _ _ _ he;have q1:wc.cell? ⟨w.heap.size+1,1,none⟩=some (.string t):=Qf _ _ 1 _ _ _ he;have q2:wc.cell? ⟨w.heap.size+1,2,none⟩=some (.slice A K.length c):=Qf _ _ 2 _ _ _ he;have q3:wc.cell? ⟨w.heap.size+1,3,none⟩=some (.string b):=Qf _ _ 3 _ _ _ he;have HR:=hIx (hI.out wc h5);clear hF hI hA he gz g5;go_wp2_with (go_at_call 7;apply Hid.out);refine WhM HR ?_;rintro e w2 ⟨mv,rfl,gd,h8⟩;obtain⟨Av,cv,rfl,hC,g9⟩:=zlj gd;obtain⟨hE,S⟩:=G;dsimp only at *;have hg:=h5.trans (h8.mono h5.size);clear r0 r1 r2 q0 q1 q2 q3 HR gd x0 x1 x2 x3;unfold verV;obtain⟨Q,hv⟩:∃Q,w2.alloc (.cells #[.int .i64 S.st,.int .i64 S.who,.int .i64 S.sc,.slice Av S.mt.length cv] 33)=Q:=⟨_,rfl⟩
  have P:Below w2.heap.size w2 Q:=by rw[<-hv];exact WaL
  have hu:V4 Q w2.heap.size S.st S.who S.sc (.slice Av S.mt.length cv):=by rw[<-hv];exact Qp w2 _
  have V:=hg.trans (P.mono hg.size);have gF:w2.heap.size<Q.heap.size:=zaq hu;have h0:=(hC.below P).more P.size;have ⟨g8,_,F⟩:=U.out Q V;have hW:=hIx hv;clear hv P hC
  by_cases hc:hE=0
  rotate_left
  ·have n0:(hE != 0)=true:=Q6.2 hc
   have hS:=hU.out hc;subst hS;have ⟨v0,v1,v2,v3⟩:=hu.four;have gM:=hIx (zi4 0 0 0 0 0 0 Av none 0 cv 0 0 [] [] Q h0 (Sl.nil _ _ _ _) (by decide) (by decide));clear hc hU hV g8;unfold run0 at *;dsimp only[List.length_nil]at *;go_upto_region 5 with fail
   rw[hW.out];go_wp2_with (go_at_call 9;apply Hid.out);refine WhM gM ?_;rintro e w4 ⟨rfl,gP⟩;go_wp2;go_ret;exact⟨rfl,F.trans (gP.mono F.size)⟩
  ·subst hc
   have HP:=hIx (hV.out rfl)
   have g:Hid (∀W,Below Q.heap.size Q W->Below w.heap.size w W/\W.cell? ⟨w.heap.size,0,none⟩=some (.int .i64 ms)/\W.cell? ⟨w.heap.size,2,none⟩=some (.slice AA l.length ca)/\V4 W w2.heap.size S.st S.who S.sc (.slice Av S.mt.length cv)/\Sl W W.heap.size 1 Av S.mt.length (S.mt.map (Value.int .i64))):=hIx λW hb=>by
    have h1:=(U.out W (V.trans (hb.mono V.size))).1;exact⟨F.trans (hb.mono F.size),Qf _ _ 0 _ _ _ h1,Qf _ _ 2 _ _ _ h1,(hb.block _ gF).trans hu,(h0.below hb).more hb.size⟩
   have gY:l.length<=40:=HP.out.len
   have gk:Hid (∀W,Below Q.heap.size Q W->RuLies W W.heap.size ⟨ms,gg,AA,ca,l⟩):=hIx λW hb=>by
    have n:=(g.out W hb).1;exact hd.out.keep n n.size
   obtain⟨_,z0,z2,_⟩:=g.out Q (Qg _ _);clear hU hV g8 U hd hu h0 F V hg h5 h8;go_upto_region 8 with fail
   rw[hW.out];clear hW;go_wp2
   go_loopw [11,12,53] (λv d i wr=>PL1 (l.map RuM.r) Q v d i wr) (λ_ _ i _=>l.length-(intOf i).toNat)
   case atStart=>exact⟨0,Qm _,rfl,rfl,rfl,Qg _ _⟩
   case round=>
    obtain⟨k,hk,rfl,rfl,rfl,I⟩:=hrel;rw[Qh]at hk
    by_cases Z:k<l.length
    ·have d1:decide ((k:Int)<(l.length:Int))=true:=by simp;omega
     have i7:IntKind.i64.wrap ((k:Int)+1)=(k:Int)+1:=Qx _ (by omega);have hZ:=gk.out wr I;obtain⟨b',gV,rfl,_,B⟩:=zpl hZ.sl k Z;have g6:=hZ.all _ (Qy Z);have gb:=O.out.all _ (Qy Z);have g1:=HP.out.acts l[k].r (QO.2 ⟨_,Qy Z,rfl⟩);have hT:=zr9 ((l.map RuM.r).take k) (zlC HP.out.acts k) (zlC (λr hr=>by obtain⟨y,hy,rfl⟩:=QO.1 hr;exact(O.out.all _ hy).acts) k);have gL:((l.map RuM.r).take k).length=k:=by rw[Qz,Qh];omega
     rw[gL]at hT
     have HN:Hid (zaK ((l.map RuM.r).take (k+1))=zaK ((l.map RuM.r).take k)+zfb l[k].r.acts/\zjC ((l.map RuM.r).take (k+1))=(zjC ((l.map RuM.r).take k)||zh6 l[k].r.acts)):=hIx (by
      have L:k<(l.map RuM.r).length:=by rw[Qh];exact Z
      have e:(l.map RuM.r)[k]=l[k].r:=Zd _;rw[zoG _ k L,zqI _ k L,e];exact⟨rfl,rfl⟩)
     generalize l[k]=X at *;obtain⟨sk,hJ⟩:∃sk,zaK ((l.map RuM.r).take k)=sk:=⟨_,rfl⟩
     obtain⟨dk,hK⟩:∃dk,zjC ((l.map RuM.r).take k)=dk:=⟨_,rfl⟩
     rw[hJ]at HN hT;rw[hK]at HN;rw[hJ,hK];clear hJ hK;have c0:=B 0 (by decide) _ rfl;have c1:=B 1 (by decide) _ rfl;have c2:=B 2 (by decide) _ rfl;have c3:=B 3 (by decide) _ rfl;have c4:=B 4 (by decide) _ rfl;have c5:=B 5 (by decide) _ rfl;have c6:=B 6 (by decide) _ rfl;have c7:=B 7 (by decide) _ rfl;have c8:=B 8 (by decide) _ rfl;rw[Xj]at c0;obtain⟨z,E⟩:∃z,wr.alloc (.cells #[.int .i64 X.r.id,.int .i64 X.r.phase,.slice X.vA X.r.vars.length X.vc,.slice X.pA X.r.pipe.length X.pc,.bool X.r.no,.int .i64 X.r.op,.string X.r.arg,.slice X.aA X.r.acts.length X.ac,.bool X.r.chain] 42)=z:=⟨_,rfl⟩
     have q:Below wr.heap.size wr z:=by rw[<-E];exact WaL
     have gp:R9 z wr.heap.size (.int .i64 X.r.id) (.int .i64 X.r.phase) (.slice X.vA X.r.vars.length X.vc) (.slice X.pA X.r.pipe.length X.pc) (.bool X.r.no) (.int .i64 X.r.op) (.string X.r.arg) (.slice X.aA X.r.acts.length X.ac) (.bool X.r.chain):=by rw[<-E];exact Qp wr _
     have ⟨k0,k1,D,k3,k4,k5,k6,k7,k8⟩:=gp.cells9;have gS:=gb.acts;have hx:=hIx E;have hB:=hIx (I.trans (q.mono I.size))
     have gt:Hid (∀W,Below z.heap.size z W->Sl W W.heap.size 2 X.aA X.r.acts.length (X.r.acts.flatMap za5)):=hIx λW hb=>by
      have h1:=q.trans (hb.mono q.size);exact(g6.acts.below h1).more h1.size
     have gA:=hIx (λj=>zpF (X.r.acts.take j) (zlC g1 j));have gJ:=hIx g1;clear E q gp B hZ g6 gb g1 I;go_upto_region 11 with fail
     rw[hx.out];clear hx k0 k1 D k3 k4 k5 k6 k8;go_wp2
     go_loopw [11,12,60] (λv d i wr=>PL2 X.r.acts sk dk z v d i wr) (λ_ _ i _=>X.r.acts.length-(intOf i).toNat)
     case atStart=>exact⟨0,Qm _,rfl,by show _=Value.int .i64 (sk+0);rw[Int.add_zero],by show _=Value.bool (dk||false);rw[Bool.or_false],Qg _ _⟩
     case round=>
      obtain⟨j,hj,rfl,rfl,rfl,C⟩:=hrel
      by_cases h6:j<X.r.acts.length
      ·have d2:decide ((j:Int)<(X.r.acts.length:Int))=true:=by simp;omega
       have i8:IntKind.i64.wrap ((j:Int)+1)=(j:Int)+1:=Qx _ (by omega);obtain⟨b2,gr,eA,_,x1,x2⟩:=zt5 (gt.out wr C) j h6;rw[eA];clear eA;have hi:=hIx (And.intro (zrc X.r.acts j h6) (zrx X.r.acts j h6));have g2:=gA.out j;have gn:=gJ.out X.r.acts[j] (Qy h6);rw[Qz,Xb hj]at g2;generalize X.r.acts[j]=y at *;obtain⟨ak,an⟩:=y;dsimp only at x1 x2 gn;obtain⟨mj,hp⟩:∃mj,zfb (X.r.acts.take j)=mj:=⟨_,rfl⟩
       obtain⟨dj,g0⟩:∃dj,(dk||zh6 (X.r.acts.take j))=dj:=⟨_,rfl⟩
       have hL:Hid (sk+zfb (X.r.acts.take (j+1))=sk+mj+zbB ⟨ak,an⟩/\(dk||zh6 (X.r.acts.take (j+1)))=(dj||ak==2)):=hIx (by
        rw[hi.out.1,hi.out.2,<-hp,<-g0,Bool.or_assoc];exact⟨(Int.add_assoc _ _ _).symm,rfl⟩)
       rw[hp]at g2;rw[hp,g0];obtain⟨wb,hq⟩:∃wb,wr.alloc (.cells #[.int .i64 ak,.int .i64 an] 44)=wb:=⟨_,rfl⟩
       have ga:Below wr.heap.size wr wb:=by rw[<-hq];exact WaL
       have u:wb.heap[wr.heap.size]? = some (.cells #[.int .i64 ak,.int .i64 an] 44 (0,0)):=by rw[<-hq];exact Qp wr _
       have y0:wb.cell? ⟨wr.heap.size,0,none⟩=some (.int .i64 ak):=Qf _ _ 0 _ _ _ u;have y1:wb.cell? ⟨wr.heap.size,1,none⟩=some (.int .i64 an):=Qf _ _ 1 _ _ _ u;have hX:=hIx (C.trans (ga.mono C.size));have gm:=hIx hq;have i9:IntKind.i64.wrap (sk+mj+an)=sk+mj+an:=Qx _ (by omega)
       have T:Hid (∀v' d',v'=sk+mj+zbB ⟨ak,an⟩->d'=(dj||ak==2)->PL2 X.r.acts sk dk z (.int .i64 v') (.bool d') (.int .i64 ((j:Int)+1)) wb):=hIx λv' d' h1 h2=>
        ⟨j+1,h6,rfl,by rw[h1,hL.out.1],by rw[h2,hL.out.2],hX.out⟩
       clear hq ga u hi hp g0 C hL g2 gn hT;go_upto_region 14 with fail
       rw[gm.out];clear gm x1 x2
       by_cases h3:ak=3
       ·subst h3
        cases dj
        all_goals
         go_wp2;exact⟨T.out _ _ rfl rfl,by dsimp only[intOf];omega⟩
       ·have e3:(ak==3)=false:=Qb.2 h3
        have h4:zbB ⟨ak,an⟩=0:=Qe h3;cases dj
        all_goals
         go_wp2;exact⟨T.out _ _ (by rw[h4,Int.add_zero]) rfl,by dsimp only[intOf];omega⟩
      ·have d2:decide ((j:Int)<(X.r.acts.length:Int))=false:=by simp;omega
       have gq:j=X.r.acts.length:=by omega
       have hX:=hIx (hB.out.trans (C.mono hB.out.size))
       have T:Hid (PL1 (l.map RuM.r) Q (.int .i64 (sk+zfb (X.r.acts.take j))) (.bool (dk||zh6 (X.r.acts.take j))) (.int .i64 ((k:Int)+1)) wr):=hIx
        ⟨k+1,by rw[Qh];exact Z,rfl,by rw[HN.out.1,gq,QV],by rw[HN.out.2,gq,QV],hX.out⟩
       generalize sk+zfb (X.r.acts.take j)=v1 at *;generalize (dk||zh6 (X.r.acts.take j))=v2 at *;go_wp2;exact⟨T.out,by dsimp only[intOf];omega⟩
    ·have d1:decide ((k:Int)<(l.length:Int))=false:=by simp;omega
     have g7:(l.map RuM.r).take k=l.map RuM.r:=QC (by rw[Qh];omega);rw[g7];obtain⟨gQ,r0,r2,gu,gs⟩:=g.out wr I;have ⟨v0,v1,v2,v3⟩:=gu.four;obtain⟨sl,ht⟩:∃sl,zaK (l.map RuM.r)=sl:=⟨_,rfl⟩
     obtain⟨dl,hO⟩:∃dl,zjC (l.map RuM.r)=dl:=⟨_,rfl⟩
     have h9:S.sc<=sl:=by rw[<-ht];exact HP.out.sc
     have h7:=HP.out.deny;dsimp only at h7;rw[ht,hO]at h7;have d9:decide (sl<S.sc)=false:=by simp;omega
     rw[ht,hO];have hn:=hIx (And.intro HP.out.nodup (And.intro HP.out.ids (And.intro HP.out.who HP.out.mt)));have gD:=hIx I;have gv:=I.size;clear ht hO HP g7 h9 I z0 z2 gu;go_upto_region 19 with fail
     go_cut [106]from 79 to 106 (λs wx=>s=.bool false/\wx=wr)
     case first=>
      cases dl with
      |true=>
       by_cases hm:sl<ms
       ·have g3:decide (sl<ms)=true:=Qu hm
        go_wp2;go_meet;exact⟨rfl,rfl⟩
       ·have g3:decide (sl<ms)=false:=Qs hm
        go_wp2;go_meet;exact⟨rfl,rfl⟩
      |false=>
       obtain⟨hw,gi⟩:=h7 rfl;rw[hw]at v1;have hi:=hIx gi;clear hw gi h7
       by_cases hm:sl<ms
       ·have g3:decide (sl<ms)=true:=Qu hm
        rw[hi.out hm]at v0;go_wp2;go_meet;exact⟨rfl,rfl⟩
       ·have g3:decide (sl<ms)=false:=Qs hm
        go_wp2;go_meet;exact⟨rfl,rfl⟩
     case rest=>
      obtain⟨rfl,gN⟩:=hcut;subst gN;obtain⟨nm,ho⟩:∃nm,S.mt.length=nm:=⟨_,rfl⟩
      have gU:=hIx ho;have k9:nm<=40:=by rw[<-ho];exact hn.out.2.2.2
      rw[ho]at v3 g9 g;clear ho h7 d9 v0 gs;go_wp2
      go_loopw [110] (λi wr=>PL3 nm wc i wr) (λi _=>nm-(intOf i).toNat)
      case atStart=>exact⟨0,Qm _,rfl,Qg _ _⟩
      case round=>
       obtain⟨D,gT,rfl,C⟩:=hrel;have ha:=hIx (gD.out.trans (C.mono gv));obtain⟨hH,s0,s2,hN,H⟩:=g.out wr ha.out;have ⟨y0,y1,y2,y3⟩:=hN.four
       by_cases gO:D<nm
       ·have d3:decide ((D:Int)<(nm:Int))=true:=by simp;omega
        have i3:IntKind.i64.wrap ((D:Int)+1)=(D:Int)+1:=Qx _ (by omega);have i4:(D:Int)<=(cv:Int):=by omega
        obtain⟨b2,gr,eA,hz,hc⟩:=H.icells (by omega);have x0:=hc D (by omega);have L:D<S.mt.length:=by omega
        have hD:S.mt.getD D 0=S.mt[D]:=by rw[Qk,Qc L];rfl
        rw[hD]at x0;have ge:=zol hn.out.1 D L;have hG:=hn.out.2.1 S.mt[D] (Qy L);generalize S.mt[D]=id at *;obtain⟨z,E⟩:∃z,wr.alloc (.cells #[.int .i64 id] 3)=z:=⟨_,rfl⟩
        have q:Below wr.heap.size wr z:=by rw[<-E];exact WaL
        have u:z.heap[wr.heap.size]? = some (.cells #[.int .i64 id] 3 (0,0)):=by rw[<-E];exact Qp wr _
        have gw:=zaq u
        have gh:Hid (∀W,Below z.heap.size z W->Calls Tryz.prog 10 #[.slice Av D cv,.int .i64 id] W λe w'=>e=.returned (.bool false)/\w'=W):=hIx λW hb=>by
         have:=zmr cv id ((H.below (q.trans (hb.mono q.size))).ifront D (by omega)) (by omega);rw[ge]at this;exact this
        have gK:Hid (∀W,Below z.heap.size z W->Calls Tryz.prog 11 #[.slice AA l.length ca,.func (.func 12) #[] #[.pointer (some ⟨wr.heap.size,0,none⟩)]] W (zal true W)):=hIx λW hb=>by
         have h3:=ha.out.trans ((q.trans (hb.mono q.size)).mono ha.out.size);have:=zue l id AA ca wr.heap.size W (gk.out W h3).sl O.out.len (Qv gw hb.size) ((hb.cell (p:=⟨wr.heap.size,0,none⟩) gw).trans (Qf _ _ 0 _ _ _ u));rw[hG]at this;exact this
        have gx:Hid (∀W,Below z.heap.size z W->PL3 nm wc (.int .i64 ((D:Int)+1)) W):=hIx λW hb=>⟨D+1,gO,rfl,C.trans ((q.trans (hb.mono q.size)).mono C.size)⟩
        have z0:=Qf _ _ 0 _ _ _ u;obtain⟨_,s0,s2,gC,_⟩:=g.out z (ha.out.trans (q.mono ha.out.size));have ⟨gW,ka,gZ,gE⟩:=gC.four;have hx:=hIx E;clear E q u hN gC hz hc H C ge hG hD L;rw[eA]at gE gh;rw[eA];go_upto_region 24 with fail
        rw[hx.out];clear y0 y1 y2 y3
        go_cut [127]from 115 to 127 (λs wx=>s=.bool false/\Below z.heap.size z wx)
        case first=>
         go_region_with (first
          |(go_at_call 10;(with_reducible refine(gh.out z.drew (Qg _ _).drew).mono ?_);rintro e w7 ⟨rfl,rfl⟩)
          |(go_at_call 11;(with_reducible refine(gK.out z.drew (Qg _ _).drew).mono ?_);rintro e w8 ⟨rfl,gG⟩)
          |fail "arm")
         all_goals (go_wp2;go_meet)
         all_goals exact⟨rfl,undrew gG⟩
        case rest=>
         obtain⟨rfl,gI⟩:=hcut;go_wp2;exact⟨gx.out _ gI,by dsimp only[intOf];omega⟩
       ·have d3:decide ((D:Int)<(nm:Int))=false:=by simp;omega
        by_cases hw:S.who=0
        ·have e1:(S.who==0)=true:=by rw[Zk];exact hw
         clear hw;go_wp2;go_ret;exact⟨rfl,hH⟩
        ·have e1:(S.who==0)=false:=Qb.2 hw
         have gB:=hn.out.2.2.1.resolve_left hw;have gl:=hIx (zmr cv S.who H (by omega));rw[gB]at gl;clear hw gB H hN;go_wp2_with (go_at_call 10;apply Hid.out);refine WhM gl ?_;rintro e w6 ⟨rfl,rfl⟩;go_wp2;go_ret;exact⟨rfl,hH⟩
theorem zjr(a:RuArg)(q:RqV)(d:Int)(w:World){j i:Value}(n:zfr w j a)(l:zcx a)(y:zp9 w i q)(g:ziL q/\znu q)(o:0<=d/\d<=4294967295)(f:LibOk w)
 (k:Lib.TabIs Tryz.prog w "internal/strconv.uint64pow10" .u64 Lib.pow10Tab):
 Calls Tryz.prog 3 #[a.value,.agg #[.string q.m,.string q.t,.slice q.A q.fs.length q.c,.string q.b],.int .u32 d] w λe w'=>e=.returned (.bool true)/\Below w.heap.size w w':=by
 have h:=zi6 a q.m q.t q.b q.fs q.A q.c d.toNat w (zxm a q d.toNat w n l y g (by omega) f k);rw[show ((d.toNat:Nat):Int)=d by omega]at h;exact h
