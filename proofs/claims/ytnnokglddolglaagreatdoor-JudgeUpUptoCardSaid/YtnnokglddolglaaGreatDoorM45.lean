/- Lemmas for the last texts. -/
import Derived.Test.YtnnokglddolglaaGreatDoorM44
set_option maxHeartbeats 3200000
set_option maxRecDepth 100000
namespace Go.Proofs.YtnnokglddolglaaGreatDoor
open Go.RowKit Go.Proofs.Tryz
def getT:ByteArray:=ByteArray.mk #[71,69,84]
def hiT:ByteArray:=ByteArray.mk #[47,97,63,98,61,99]
def zz7:ReqV:=⟨⟨getT,hiT,[]⟩,[]⟩
def zpq:OutM:=⟨⟨zz7,0,0,0,[],0⟩,none,0,none,0⟩
def zzY:ByteArray:=ByteArray.mk #[71,69,84,32,47,97,63,98,61,99,32,72,84,84,80,47,49,46,49,13,10,13,10]
theorem zvQ:bs (upJ ([zpq,badM 400].map OutM.p))=zzY:=by kernel_rfl
theorem zss(e:Int)(w:World):∀x∈[zpq,badM e],OutIn w w.heap.size x:=λx a=>by
 rcases QJ.1 a with rfl|a
 ·exact⟨Sl.nil _ _ _ _,Sl.nil _ _ _ _⟩
 ·rw[QE.1 a];exact⟨Sl.nil _ _ _ _,Sl.nil _ _ _ _⟩
theorem ztq:∀x∈[zpq,badM 400],UpOk x:=λx a=>by
 rcases QJ.1 a with rfl|a
 ·exact λ_=>⟨by decide,by decide,by decide,zj6 (by decide) (by decide)⟩
 ·rw[QE.1 a];exact λh=>by cases h
theorem zAA{d:List OutM}(h:∀x∈d,zce x.p=true->fwdE x.p.q.h x.p.q.b=0):∀x∈d,UpOk x:=λx f e=>by
 have c:=zoX (h x f e);have a:=zek c.check;have h1:=a.short;have h2:=a.line;have g:=c.len;exact⟨by unfold maxLen;omega,by unfold maxLen;omega,by unfold maxLen;omega,zkt a⟩
def zzv(l:List OutM)(a:World)(n i:Value)(wr:World):Prop:=∃k,k<=l.length/\i=.int .i64 (k:Int)/\n=.int .i64 (((l.map OutM.p).take k).countP zce:Int)/\Below a.heap.size a wr
def UpRd(a:World)(s n:Value)(wr:World):Prop:=∃(t:ByteArray) (k:Nat),s=.string t/\n=.int .i64 (k:Int)/\t.size<=2400000000/\k<=65537/\UpLeft t.data.toList k/\Below a.heap.size a wr
theorem znz(a:RuArg)(H B O:Int)(cl:Nat)(s:ByteArray)(w:World)(h:RuLies w w.heap.size a)(hs:zcx a)(hc:cl<4294967296)(gl:s.size<=1048576)(L:LibOk w)(Z:TabOk w):
 Calls prog 5 #[a.value,.agg #[.int .i64 H,.int .i64 B,.int .i64 O],.int .u32 (cl:Int),.string s] w λe w'=>e=.returned (.bool true)/\Below w.heap.size w w':=by
 obtain⟨g,V⟩:∃g,((w.alloc (.cells #[.int .i64 a.most,.int .i64 a.status,.slice a.A a.l.length a.c] 24)).alloc (.cells #[.int .i64 H,.int .i64 B,.int .i64 O] 58))=g:=⟨_,rfl⟩
 have hv:g.heap.size=w.heap.size+2:=by rw[<-V];simp
 have r:Below w.heap.size w g:=by rw[<-V];exact WaL.alloc (by simp) _
 have hR:R3' g w.heap.size a.most a.status (.slice a.A a.l.length a.c):=by
  rw[<-V];exact(Qt _ _ _ (by simp only[Qr];omega)).trans (Qp w _)
 have hB:g.heap[w.heap.size+1]? = some (.cells #[.int .i64 H,.int .i64 B,.int .i64 O] 58 (0,0)):=by
  rw[<-V];exact zbo _ _ _ (by simp only[Qr])
 have ho:Hid (∀W,Below g.heap.size g W->(W.cell? ⟨w.heap.size,0,none⟩=some (.int .i64 a.most)/\W.cell? ⟨w.heap.size,1,none⟩=some (.int .i64 a.status)/\W.cell? ⟨w.heap.size,2,none⟩=some (.slice a.A a.l.length a.c))/\(W.cell? ⟨w.heap.size+1,0,none⟩=some (.int .i64 H)/\W.cell? ⟨w.heap.size+1,1,none⟩=some (.int .i64 B)/\W.cell? ⟨w.heap.size+1,2,none⟩=some (.int .i64 O))/\Below w.heap.size w W):=hIx λW hb=>by
  have h1:=(hb.block _ (by omega)).trans hR;have h2:=(hb.block _ (by omega)).trans hB;exact⟨⟨Qf _ _ 0 _ _ _ h1,Qf _ _ 1 _ _ _ h1,Qf _ _ 2 _ _ _ h1⟩,⟨Qf _ _ 0 _ _ _ h2,Qf _ _ 1 _ _ _ h2,Qf _ _ 2 _ _ _ h2⟩,r.trans (hb.mono r.size)⟩
 have h6:Hid (∀W,Below g.heap.size g W->Calls prog 21 #[.agg #[.int .i64 a.most,.int .i64 a.status,.slice a.A a.l.length a.c],.agg #[.int .i64 H,.int .i64 B,.int .i64 O],.int .u32 (cl:Int),.string s] W (zdP a H B O cl s W)):=hIx λW hb=>by
  have z:=r.trans (hb.mono r.size);exact zwP a H B O cl s W (h.keep z z.size) hs hc (by omega) (L.below z) (Z.below z)
 have hr:Hid (∀(l:List OutM) (A:Option Addr) (c:Nat) W,Below g.heap.size g W->Sl W W.heap.size 9 A l.length (l.flatMap zel)->(∀x∈l,OutIn W W.heap.size x)->(∀x∈l,UpOk x)->l.length<=1048576->
  Calls prog 19 #[.slice A l.length c] W λe w'=>e=.returned (.string (bs (upJ (l.map OutM.p))))/\Below W.heap.size W w'):=hIx λl A c W hb h1 h2 h3 h4=>by
  have z:=r.trans (hb.mono r.size);exact zzT l A c W h1 h2 h3 h4 (L.below z) (Z.below z)
 have hh:Hid (∀(t:ByteArray) W,t.size<=4611686018427387904->Below g.heap.size g W->Calls prog 22 #[.string t,.agg #[.int .i64 4096,.int .i64 4096,.int .i64 40]] W (zdS t.data.toList 4096 4096 W)):=hIx λt W ht hb=>zsO t 4096 4096 40 W (by decide) (L.below (r.trans (hb.mono r.size))) ht
 have hg:Hid (∀d:List OutM,d.map OutM.p=allS (outJ a.set cl O.toNat) H B s.data.toList->(∀x∈d,UpOk x)/\UpLeft (upJ (d.map OutM.p)) ((d.map OutM.p).countP zce)):=hIx λd hd=>by
  have hF:∀q,(outJ a.set cl O.toNat q).err=0->(outJ a.set cl O.toNat q).q=q/\fwdE q.h q.b=0:=zy1 a.set cl O.toNat;have hm:∀o∈d.map OutM.p,zce o=true->fwdE o.q.h o.q.b=0:=by rw[hd];exact zxe hF _ _
  exact⟨zAA λx S=>hm x.p (QO.2 ⟨x,S,rfl⟩),zyU _ hm⟩
 have P:Hid (∀W,Below g.heap.size g W->Below w.heap.size w W):=hIx λW hb=>r.trans (hb.mono r.size)
 have Q:Hid (∀W,Below g.heap.size g W->Calls prog 19 #[.slice (some ⟨W.heap.size,0,none⟩) 2 2] (W.alloc (.cells #[.string (.mk #[71,69,84]),.string (.mk #[47,97,63,98,61,99]),.slice none 0 0,.string (.mk #[]),.int .i64 0,.int .i64 0,.int .i64 0,.slice none 0 0,.int .i64 0,.string (.mk #[]),.string (.mk #[]),.slice none 0 0,.string (.mk #[]),.int .i64 0,.int .i64 0,.int .i64 0,.slice none 0 0,.int .i64 400] 62)) λe w'=>e=.returned (.string (.mk #[71,69,84,32,47,97,63,98,61,99,32,72,84,84,80,47,49,46,49,13,10,13,10]))/\Below g.heap.size g w'):=hIx λW hb=>by
  have h9:Below W.heap.size W (W.alloc (.cells #[.string (.mk #[71,69,84]),.string (.mk #[47,97,63,98,61,99]),.slice none 0 0,.string (.mk #[]),.int .i64 0,.int .i64 0,.int .i64 0,.slice none 0 0,.int .i64 0,.string (.mk #[]),.string (.mk #[]),.slice none 0 0,.string (.mk #[]),.int .i64 0,.int .i64 0,.int .i64 0,.slice none 0 0,.int .i64 400] 62)):=WaL;have hn:=Qp W (.cells #[.string (.mk #[71,69,84]),.string (.mk #[47,97,63,98,61,99]),.slice none 0 0,.string (.mk #[]),.int .i64 0,.int .i64 0,.int .i64 0,.slice none 0 0,.int .i64 0,.string (.mk #[]),.string (.mk #[]),.slice none 0 0,.string (.mk #[]),.int .i64 0,.int .i64 0,.int .i64 0,.slice none 0 0,.int .i64 400] 62);have C:=hb.trans (h9.mono hb.size);refine(hr.out [zpq,badM 400] (some ⟨W.heap.size,0,none⟩) 2 _ C (zcL hn (zaq hn) rfl) (zss 400 _) ztq (by decide)).mono ?_;rintro e w3 ⟨rfl,D⟩;exact⟨by rw[zvQ];rfl,C.trans (D.mono C.size)⟩
 have gf:=hIx V;unfold RuArg.value;unfold zdP at h6;generalize outJ a.set cl O.toNat=F at *;generalize zct a.set H B O=J at *;clear V hR hB h hs hv r L Z hc
 go_in
 go_upto_region 1 with fail
 rw[gf.out]
 go_cut [23]from 18 to 23 (λt wx=>t=.bool false/\Below g.heap.size g wx)
 case first=>
  go_wp2_with (first|(go_at_call 20;refine(zts _).mono ?_;rintro e w1 ⟨rfl,gi⟩;have HU:=hIx (Q.out w1 gi))|(go_at_call 19;refine HU.out.mono ?_;rintro e w3 ⟨rfl,D⟩));go_meet;exact⟨rfl,D⟩
 case rest=>
  obtain⟨rfl,hcut⟩:=hcut;have ⟨⟨r0,r1,r2⟩,⟨b0,b1,b2⟩,z⟩:=ho.out wc hcut;have HA:=hIx (h6.out wc hcut);have g0:=hIx hcut;have gc:=hcut.size;clear hcut h6 Q;go_wp2_with (go_at_call 21;apply Hid.out);refine WhM HA ?_;rintro e w2 ⟨C,h⟩;have h0:=hIx (g0.out.trans (C.mono gc));clear r0 r1 r2 b0 b1 b2 HA ho z
  rcases h with ⟨hj,rfl⟩|⟨_,_,rfl⟩|⟨_,gm,d,A,c,rfl,hO,hi,hV,gn⟩
  ·have n0:(J != 0)=true:=Q6.2 hj
   clear hj C;go_wp2;go_ret;exact⟨rfl,P.out _ h0.out⟩
  ·clear C
   go_wp2;go_ret;exact⟨rfl,P.out _ h0.out⟩
  ·obtain⟨hG,h7⟩:=hg.out d hV
   obtain⟨A',c',e',hy⟩:=hO.form;obtain rfl:A'=A:=by injection e' with e1 _ _;exact e1.symm
   have hU:=ztF (d.map OutM.p);rw[Qh]at hU;have HU:=hIx (hr.out d A' c w2 h0.out hy (λx S=>(hi x S).outIn) hG (by omega));obtain⟨T,hT⟩:∃T,bs (upJ (d.map OutM.p))=T:=⟨_,rfl⟩
   have gh:T.size<=2400000000:=by rw[<-hT,zaj];omega
   have h8:Hid (UpLeft T.data.toList ((d.map OutM.p).countP zce)):=hIx (by rw[<-hT,zae];exact h7);rw[hT]at HU;have g3:=hIx hy;have hJ:Hid (∀k,k<=d.length->((d.map OutM.p).take k).countP zce<=k):=hIx λk _=>Qn List.countP_le_length (by rw[Qz];omega)
   have hY:Hid (∀k (hk:k<d.length),((d.map OutM.p).take (k+1)).countP zce=((d.map OutM.p).take k).countP zce+if zce d[k].p=true then 1 else 0):=hIx λk hk=>by
    rw[Qq (by rw[Qh];exact hk),List.countP_append,Zd,List.countP_singleton]
   have hK:Hid ((d.map OutM.p).take d.length=d.map OutM.p):=hIx (QC (by rw[Qh];omega));clear h7 hG hV hi hO e' hy hT hU C hg hr;go_wp2_with (go_at_call 19;apply Hid.out);refine WhM HU ?_;rintro e w3 ⟨rfl,D⟩;have hW:=hIx (h0.out.trans (D.mono h0.out.size));have hI:Hid (∀W,Below w3.heap.size w3 W->∀k (hk:k<d.length),∃b hz,A'=some ⟨b,hz,none⟩/\b<w2.heap.size/\∀j,j<9->∀v,(zel d[k])[j]? = some v->W.cell? ⟨b,hz+k*9+j,none⟩=some v):=hIx λW hb k hk=>zxA (g3.out.below (D.trans (hb.mono D.size))) k hk
   clear HU g3 D;go_wp2
   go_loopw [12,41] (λn i wr=>zzv d w3 n i wr) (λ_ i _=>d.length-(intOf i).toNat)
   case atStart=>exact⟨0,Qm _,rfl,rfl,Qg _ _⟩
   case round=>
    obtain⟨k,hk,rfl,rfl,U⟩:=hrel;have hq:=hJ.out k hk
    by_cases hC:k<d.length
    ·have d1:decide ((k:Int)<(d.length:Int))=true:=by simp;omega
     have i7:IntKind.i64.wrap ((k:Int)+1)=(k:Int)+1:=Qx _ (by omega);obtain⟨b',hz,rfl,_,y⟩:=hI.out wr U k hC;have f:=hY.out k hC;obtain⟨Y,hA⟩:∃Y,((d.map OutM.p).take k).countP zce=Y:=⟨_,rfl⟩
     rw[hA]at hq f;rw[hA];have i8:IntKind.i64.wrap ((Y:Int)+1)=(Y:Int)+1:=Qx _ (by omega);generalize d[k]=X at *;obtain⟨⟨⟨⟨m,t,fs⟩,b⟩,st,who,sc,mt,I⟩,XA,Xc,hX,hZ⟩:=X;dsimp only at *;have c0:=y 0 (by decide) _ rfl;have c1:=y 1 (by decide) _ rfl;have c2:=y 2 (by decide) _ rfl;have c3:=y 3 (by decide) _ rfl;have c4:=y 4 (by decide) _ rfl;have c5:=y 5 (by decide) _ rfl;have c6:=y 6 (by decide) _ rfl;have c7:=y 7 (by decide) _ rfl;have c8:=y 8 (by decide) _ rfl;rw[Xj]at c0;dsimp only at c0 c1 c2 c3 c4 c5 c6 c7 c8;generalize bs b=bb at *;obtain⟨wa,ha⟩:∃wa,wr.alloc (.cells #[.string m,.string t,.slice XA fs.length Xc,.string bb,.int .i64 st,.int .i64 who,.int .i64 sc,.slice hX mt.length hZ,.int .i64 I] 62)=wa:=⟨_,rfl⟩
     have h9:Below wr.heap.size wr wa:=by rw[<-ha];exact WaL
     have hH:O9 wa wr.heap.size (.string m) (.string t) (.slice XA fs.length Xc) (.string bb) (.int .i64 st) (.int .i64 who) (.int .i64 sc) (.slice hX mt.length hZ) (.int .i64 I):=by rw[<-ha];exact Qp wr _
     have ⟨⟨k0,k1,k2,k3⟩,k4,k5,k6,k7,k8⟩:=hH.nine;have hf:=hIx (U.trans (h9.mono U.size));have g4:=hIx ha;have HP:=hIx (zoY ⟨⟨⟨m,t,fs⟩,b⟩,st,who,sc,mt,I⟩);have E:Hid (∀x:Nat,x=Y+(if zce ⟨⟨⟨m,t,fs⟩,b⟩,st,who,sc,mt,I⟩=true then 1 else 0)->zzv d w3 (.int .i64 (x:Int)) (.int .i64 ((k:Int)+1)) wa):=hIx λx S=>⟨k+1,hC,rfl,by rw[f,S],hf.out⟩
     clear ha h9 hH y U f hA;go_upto_region 10 with fail
     rw[g4.out];clear g4 c0 c1 c2 c3 c4 c5 c6 c7 c8
     by_cases he:I=0
     ·subst he
      by_cases hw:st=0
      ·subst hw
       go_wp2;exact⟨E.out (Y+1) rfl,by dsimp only[intOf];omega⟩
      ·have n1:(st==0)=false:=Qb.2 hw
       have hp:Y=Y+(if zce ⟨⟨⟨m,t,fs⟩,b⟩,st,who,sc,mt,0⟩=true then 1 else 0):=by rw[HP.out];dsimp only;rw[n1];rfl
       have HE:=hIx (E.out Y hp);clear hw hp HP E;go_wp2;exact⟨HE.out,by dsimp only[intOf];omega⟩
     ·have n0:(I==0)=false:=Qb.2 he
      have hp:Y=Y+(if zce ⟨⟨⟨m,t,fs⟩,b⟩,st,who,sc,mt,I⟩=true then 1 else 0):=by rw[HP.out];dsimp only;rw[n0];rfl
      have HE:=hIx (E.out Y hp);clear he hp HP E;go_wp2;exact⟨HE.out,by dsimp only[intOf];omega⟩
    ·have d1:decide ((k:Int)<(d.length:Int))=false:=by simp;omega
     have g6:k=d.length:=by omega
     subst g6;rw[hK.out]at hq ⊢;obtain⟨N,hN⟩:∃N,(d.map OutM.p).countP zce=N:=⟨_,rfl⟩
     rw[hN]at hq ⊢;have hf:=hIx (hW.out.trans (U.mono hW.out.size));have g5:Hid (UpRd g (.string T) (.int .i64 (N:Int)) wr):=hIx ⟨T,N,rfl,rfl,gh,by omega,by rw[<-hN];exact h8.out,hf.out⟩;obtain⟨wo,g1⟩:∃wo,wr=wo:=⟨_,rfl⟩
     rw[g1]at g5 ⊢;clear hK hY hJ hI U h8 hN g1 hf;go_wp2
     go_loopw [11,12] (λs n wr=>UpRd g s n wr) (λs _ _=>zpt s)
     case atStart=>exact g5.out
     case round=>
      obtain⟨t,k,rfl,rfl,gq,hk,hL,hb⟩:=hrel;have hv:=hb.size
      by_cases ht:t.data.toList=[]
      ·have e0:(t.data.toList==[])=true:=by rw[ht];rfl
       have e1:t.toList.isEmpty=true:=by rw[QS,ht];rfl
       rw[ht]at hL;have g9:=hL.zero;subst g9;clear ht;go_wp2;go_ret;exact⟨rfl,P.out _ hb⟩
      ·have e0:(t.data.toList==[])=false:=by simpa using ht
       have e1:t.toList.isEmpty=false:=by rw[QS];simpa using ht
       have f:=hL.step ht;have hD:t.data.toList.length=t.size:=by simp
       have HO:Hid (∀W,Below g.heap.size g W->Calls prog 22 #[.string t,.agg #[.int .i64 4096,.int .i64 4096,.int .i64 40]] W (zdS t.data.toList 4096 4096 W)):=hIx λW hb=>hh.out t W (by omega) hb
       have gj:=hIx hb;have i8:1<=k->IntKind.i64.wrap ((k:Int)-1)=(k:Int)-1:=λ_=>Qx _ (by omega)
       have gb:=hIx i8;clear ht hL hb hh i8;go_wp2_with (first|(go_at_call 23;refine(zwk _).mono ?_;rintro e w4 ⟨rfl,hE⟩;have u:=gj.out.trans (hE.mono hv);have g8:=hIx (HO.out w4 u))|(go_at_call 22;apply Hid.out));refine WhM g8 ?_;rintro e w5 hP
       rcases hP with ⟨x,S,rfl,K⟩|⟨q,n,A,c,S,rfl,_,K⟩
       ·have G:x=5:=by
         rcases f with G|⟨p,k',G,_⟩
         ·rw[S]at G;injection G
         ·rw[S]at G;cases G
        subst G;have hu:=hIx ((u.trans (K.mono u.size)).alloc (o:=.cells #[.string (.mk #[]),.string (.mk #[]),.slice none 0 0,.string (.mk #[])] 29) (u.trans (K.mono u.size)).size);unfold zReq;clear S f u K hE;go_wp2;go_ret;exact⟨rfl,P.out _ hu.out⟩
       ·rcases f with G|⟨p,k',G,gk,gg,ge,hS⟩
        ·rw[S]at G;cases G
        ·have g7:k'=n:=by
          rw[S]at G;injection G with G
          injection G with _ g2
          exact g2.symm
         subst g7;rw[hD]at gg;have i8:=gb.out ge;have gp:(k':Int)<=(t.size:Int):=by omega
         have i0:(0:Int)<=(k':Int):=by omega
         have hu:=hIx ((u.trans (K.mono u.size)).alloc (o:=.cells #[.string q.h.m,.string q.h.t,.slice A q.h.fs.length c,.string (bs q.b)] 29) (u.trans (K.mono u.size)).size)
         have gd:Hid (t.extract k' t.size=bs (t.data.toList.drop k')):=hIx (by
          refine zg5 ?_;rw[ZG];exact QC (by rw[QF];omega))
         have hQ:Hid ((bs (t.data.toList.drop k')).size=t.size-k'):=hIx (by rw[zaj,QF,hD]);have ga:Hid (UpLeft (bs (t.data.toList.drop k')).data.toList (k-1)):=hIx (by rw[zae];exact hS);unfold reqV;clear S G hS hE u K hD;go_wp2_with fail;rw[gd.out];exact⟨⟨_,k-1,rfl,by rw[show ((k-1:Nat):Int)=(k:Int)-1 from by omega],by rw[hQ.out];omega,by omega,ga.out,hu.out⟩,by simp only[zpt,hQ.out];omega⟩
theorem znT(a:RuArg)(H B d b:Int)(s:ByteArray)(w:World){f:Value}(j:zfr w f a)(i:zcx a)(l:0<=b/\b<=4294967295)(k:s.size<=1048576)(c:LibOk w)
 (g:Lib.TabIs prog w "internal/strconv.uint64pow10" .u64 Lib.pow10Tab):
 Calls prog 5 #[a.value,.agg #[.int .i64 H,.int .i64 B,.int .i64 d],.int .u32 b,.string s] w λe w'=>e=.returned (.bool true)/\Below w.heap.size w w':=by
 have h:=znz a H B d b.toNat s w j.lies i (by omega) k c (TabOk.of g);rw[show ((b.toNat:Nat):Int)=b by omega]at h;exact h
section
open Go.ChangeShapes Go.WideShapes Go.Deep
theorem zjw:prog.cellsOf 58=3:=by kernel_rfl
theorem znF{H:Type}{enc:TypeId × Value->H}{W:World}{base j:Nat}{r:Reach}{a:Nat->Bool}{b:Bool}{v:Value}{d:DataW H}{p:List MemPlace}
 (m:Value.okWide prog W r j 58 v) (h:DataW.Trod enc prog W base a b 58 v d p):
 ∃x y z:Int,v=.agg #[.int .i64 x,.int .i64 y,.int .i64 z]:=by
 obtain⟨u,q,s,t,o,w,n,rfl,rfl,rfl,i,h1,h2⟩:=Joins.open_agg3 underlying58 (by kernel_rfl) zjw m h;obtain⟨k,c,_,_⟩:=ZQ underlying3 i;obtain⟨g,f,_,_⟩:=ZQ underlying3 h1;obtain⟨l,e,_,_⟩:=ZQ underlying3 h2;injection c with c _
 injection f with f _
 injection e with e _
 subst c;subst f;subst e
 exact⟨k,g,l,rfl⟩
end
