/- Lemmas for the last texts. -/
import Derived.Test.YtnnokglddolglaaGreatDoorM15
import Derived.OrdersHeld
import Derived.StillTail
import Derived.Deep.RegionHeld
set_option maxHeartbeats 3200000
set_option maxRecDepth 100000
namespace Go.Proofs.YtnnokglddolglaaGreatDoor
open Go.RowKit Go.Proofs.Tryz
abbrev HitP:=Nat × Nat
def rowH:RowT HitP where
 e:=378
 t:=354
 size:=2
 bytes:=16
 z:=.agg #[jA 0,jA 0]
 cells x:=[jA (x.1:Int),jA (x.2:Int)]
 hsz _:=rfl
 hpos:=by decide
 under:=underlying354
 info:=by kernel_rfl
 hz:=rfl
 one x u hu:=by
  simp only[QI,ZY,or_false]at hu
  rcases hu with rfl|rfl <;> rfl
 hbytes:=by decide
def zbb(ws:List jE)(s:jE)(j:Nat):List HitP:=(zaR ws (s.take (j+1))).map λk=>(k,j+1)
def za6(ws:List jE)(s:jE)(i:Nat):List HitP:=(List.range i).flatMap (zbb ws s)
theorem zcR(ws:List jE)(s:jE)(i:Nat):za6 ws s (i+1)=za6 ws s i++zbb ws s i:=by
 unfold za6;rw[List.range_succ,Q6];simp
theorem zp0(ws:List jE)(s:jE){i n:Nat}(h:i<=n):za6 ws s i <+:za6 ws s n:=by
 induction n with
 |zero=>
  obtain rfl:i=0:=by omega
  exact List.prefix_refl _
 |succ n ih=>
  by_cases c:i=n+1
  ·subst c;exact List.prefix_refl _
  ·rw[zcR]
   exact(ih (by omega)).trans (XC _ _)
theorem zkp(ws:List jE)(s:jE)(h:ws.length<=30):∀i,(za6 ws s i).length<=30*i
 |0=>by simp[za6]
 |i+1=>by
  have:=zkp ws s h i;have h2:(zbb ws s i).length<=30:=by unfold zbb;rw[Qh];exact Ql (zg5 _ _) h
  rw[zcR,Qa];omega
def zmv(ws:List jE)(s:jE)(m:Int):List HitP:=if m=1 then (za6 ws s s.length).take 1 else za6 ws s s.length
def zpk(ws:List jE)(s:jE)(m:Int)(w:World)(e:Ending)(w':World):Prop:=
 ∃v,e=jC v/\OwnG rowH w' w.heap.size v (zmv ws s m)/\w w'
def zzO(a:List zaC)(w:World)(v:Value)(wr:World):Prop:=
 ∃(k:Nat) (l:List (zaJ × Nat)),k<=a.length/\v=jA (k:Int)/\w wr/\MpAt wr w.heap.size l/\NextOk (a.take k) l
def zz6(ws:List jE)(e:List jE)(s:ByteArray)(m:Int)(l:List (zaJ × Nat))(w:World)(c d v:Value)(wr:World):Prop:=
 ∃(i a:Nat) (b:jE),i<=s.size/\v=jA (i:Int)/\d=jA (a:Int)/\e[a]? = some b/\zfu e (s.data.toList.take i) b/\OwnG rowH wr w.heap.size c (za6 ws s.data.toList i)/\(m=1->za6 ws s.data.toList i=[])/\w wr/\MpAt wr w.heap.size l
def zAd(g:List jE)(f:jE)(b:UInt8)(l:List (zaJ × Nat))(w:World)(e d c:Value)(wr:World):Prop:=
 ∃a:Nat,e=jA (a:Int)/\d=jA (((zbH l ((a:Int),b)).getD 0:Nat):Int)/\c=.bool (zbH l ((a:Int),b)).isSome/\Hid (FailAt g f b a)/\wr=w
def zAb(ws:List jE)(s:ByteArray)(m:Int)(l:List (zaJ × Nat))(i:Nat)(w:World)(a v:Value)(wr:World):Prop:=
 ∃q:Nat,q<=(zbb ws s.data.toList i).length/\v=jA (q:Int)/\OwnG rowH wr w.heap.size a (za6 ws s.data.toList i++(zbb ws s.data.toList i).take q)/\(m=1->za6 ws s.data.toList i++(zbb ws s.data.toList i).take q=[])/\w wr/\MpAt wr w.heap.size l
theorem zvw{c:List zaC}:NextOk (c.take 0) []:=λa b j=>by simp[zbH]
theorem zwo{ws:List jE}{s:jE}{i q:Nat}(e:i<s.length)(c:q<(zbb ws s i).length)(h:za6 ws s i++(zbb ws s i).take q=[]):[(zbb ws s i)[q]]=zmv ws s 1:=by
 obtain⟨h1,h2⟩:=List.append_eq_nil_iff.1 h;have a:za6 ws s (i+1) <+:za6 ws s s.length:=zp0 ws s e
 have b:q=0:=by
  have:=Zi List.length h2;rw[QJ,QS]at this;omega
 subst b;unfold zmv;rw[Qg rfl];rw[zcR,h1,Xu]at a;obtain⟨t,d⟩:=a;rw[<-d]
 have:∀(L:List HitP) (h:0<L.length),[L[0]]=List.take 1 (L++t):=λL h=>by
  cases L with
  |nil=>exact absurd h (by simp)
  |cons y r=>rfl
 exact this _ c
theorem zul{ws:List jE}{s:jE}{m:Int}{i:Nat}(e:i=s.length)(h:m=1->za6 ws s i=[]):zmv ws s m=za6 ws s i:=by
 unfold zmv
 split
 ·rename_i a
  rw[<-e,h a];rfl
 ·rw[<-e]
theorem zjY(ws:List jE)(s:jE)(i:Nat):(zbb ws s i).length=(zaR ws (s.take (i+1))).length:=by unfold zbb;rw[Qh]
theorem zqv(ws:List jE)(s:jE)(i q:Nat)(h:q<(zbb ws s i).length)(h2:q<(zaR ws (s.take (i+1))).length):(zbb ws s i)[q]=((zaR ws (s.take (i+1)))[q],i+1):=Zm ..
theorem ztU{s:ByteArray}{i:Nat}(h:i<s.size):s.data.toList.take (i+1)=s.data.toList.take i++[s[i]]:=by
 rw[Qs (by simpa using h)];rfl
theorem zre(ws:List ByteArray)(hG:zji ws)(m:Int)(hm:m=1\/m=-1)(s:ByteArray)(hs:s.size<=8192)(lo g cap:Nat)(r:List zaC)(ss:List jE)(ms:List zcG)(w:World)(hT:TreeIs w lo ws g cap r ss ms):
 Calls prog 283 #[.slice g ms.length cap,.string s,jA m] w (zpk (lstS ws) s.data.toList m w):=by
 obtain⟨hl,h0,hg⟩:=hT.len;have h4:=hT.few;rw[hl];have gc:g≠w.heap.size:=by omega
 have t:=hIx hT;have HG:=hIx hG;have hX:=hIx hm;have gk:=@run_makeMap prog;clear hT hG hm
 go_in
 go_wp2
 go_loopw [20] (λv wr=>zzO r w v wr) (λv _=>r.length-(intOf v).toNat)
 case atStart=>exact⟨0,[],Qm _,rfl,WaL,⟨#[],0,Qt w (.map #[] 0),rfl⟩,zvw⟩
 case round=>
  obtain⟨k,l,hk,rfl,hb,hM,hN⟩:=hrel
  by_cases V:k<r.length
  ·obtain⟨s4,c0,c1,c2,c3,_⟩:=(t.out.below hb).at k V
   have Y:w.heap.size<wr.heap.size:=by obtain⟨es,ck,h5,_⟩:=hM;exact zcU h5
   have gl:g≠wr.heap.size:=by omega
   obtain⟨A5,n5,c5⟩:=s4;unfold slV at c3;dsimp only at c3;have Z:=hIx hb;have HM:=hIx hM;have HN:=hIx hN
   by_cases hV:k=0
   ·subst hV
    simp only[XP,Zh]at c0 c1 c2 c3;clear hM hN hb;go_wp2;exact⟨⟨1,l,by omega,rfl,Z.out.alloc Z.out.size _,HM.out.keep (Qr _ _ _ Y),zoZ t.out.lev.inv HN.out⟩,by simp[intOf] <;> omega⟩
   ·have D:=zhv t.out.lev.inv (by omega) V hN
    have gj:=(t.out.lev.inv.node k r[k] (by omega) (Qd V)).1;have I:=hIx (zmr t.out.lev.inv (by omega) V hN);obtain⟨o,h6⟩:=zdI hM ((r[k].up:Int),r[k].b) k ⟨by omega,by show (r[k].up:Int)<_;omega⟩ D;have J:Hid (∀W:World,W.heap[w.heap.size]? = wr.heap[w.heap.size]? -> (Instr.mapUpdate 240 (.map (some w.heap.size)) (.agg #[jA (r[k].up:Int),.int .u8 r[k].b.toNat]) (jA (k:Int))).run prog W=.ok () (ChangeMaps.setBlock W w.heap.size o)/\MpAt (ChangeMaps.setBlock W w.heap.size o) w.heap.size (l++[(((r[k].up:Int),r[k].b),k)])):=hIx h6;generalize r[k]=x at *;obtain⟨xb,xu,xf⟩:=x;dsimp only at c0 c1 c2 I J;have t5:decide (0<(k:Int))=true:=by simp;omega
    have gm:=(J.out (wr.alloc (.cells #[.int .u8 xb.toNat,jA (xu:Int),jA (xf:Int),.slice A5 n5 c5] 239)) (Qr _ _ _ Y)).1;have g2:=hIx (J.out (wr.alloc (.cells #[.int .u8 xb.toNat,jA (xu:Int),jA (xf:Int),.slice A5 n5 c5] 239)) (Qr _ _ _ Y)).2;clear hM hN hb h6 D;go_wp2;exact⟨⟨k+1,_,by omega,rfl,(Z.out.alloc Z.out.size _).trans (zdc _ _ _ _ (Qc _)),g2.out,I.out⟩,by simp[intOf] <;> omega⟩
  ·have e:k=r.length:=by omega
   rw[e,QF (Qc _)]at hN;clear e;have HN:=hIx hN;have hL:=hIx hM;have hP:=hIx hb;clear hN hM hb;obtain⟨wo,rfl⟩:∃wo:World,wo=wr:=⟨_,rfl⟩
   go_wp2
   go_loopw [10,11,37] (λh8 G v wr=>zz6 (lstS ws) ss s m l w h8 G v wr) (λ_ _ v _=>s.size-(intOf v).toNat)
   case atStart=>
    refine⟨0,0,[],Qm _,rfl,rfl,t.out.lev.inv.trie.root,?_,OwnG.nil _ _ _,λ_=>rfl,hP.out,hL.out⟩;rw[XM];exact⟨t.out.lev.inv.trie.nil_mem,List.suffix_refl _,λu _ h=>h⟩
   case round=>
    obtain⟨i,a,hS,hi,rfl,rfl,C,K,hO,F,hb,hM⟩:=hrel;have Y:w.heap.size<wr.heap.size:=by obtain⟨es,ck,h5,_⟩:=hM;exact zcU h5
    have n:=hO.form;obtain⟨A8,c8,rfl,_⟩:=n;have gb:=zkp (lstS ws) s.data.toList (by rw[lstS,Qh];exact HG.out.few) i
    by_cases hF:i<s.size
    ·have hA:=ztU hF
     have hz:Hid (∀a:Nat,a<r.length->∀x:UInt8,(Instr.lookup 240 (.map (some w.heap.size)) (.agg #[jA (a:Int),.int .u8 x.toNat]) true).run prog wr=.ok (.tuple #[jA (((zbH l ((a:Int),x)).getD 0:Nat):Int),.bool (zbH l ((a:Int),x)).isSome]) wr):=hIx λa ha x=>
      zdf hM ((a:Int),x) ⟨by omega,by show (a:Int)<_;omega⟩
     have hQ:=t.out.lev.inv.lt C;have HF:Hid (FailAt ss (s.data.toList.take i) s[i] a):=hIx ⟨⟨hS,C,zgD s[i] K⟩⟩;have HO:=hIx hO;have h3:=hIx F;have Z:=hIx hb;have HM:=hIx hM;clear hO F hb hM K C;have hc:=hIx hA;clear hA;generalize hx:s[i]=x at HF hc;have ho:=hz.out a hQ x;obtain⟨w1,rfl⟩:∃w1:World,w1=wr:=⟨_,rfl⟩
     go_wp2
     go_loopw [11,13,14] (λG hI g3 wr=>zAd ss (s.data.toList.take i) x l w1 G hI g3 wr) (λG _ _ _=>(intOf G).toNat)
     case atStart=>exact⟨a,rfl,rfl,rfl,HF,rfl⟩
     case round=>
      obtain⟨U,rfl,rfl,rfl,O,rfl⟩:=hrel;have hn:U<r.length:=by obtain⟨v,hv,_⟩:=O.out.cand;exact t.out.lev.inv.lt hv
      have HX:=hIx (HN.out U x);clear ho;cases d:zbH l ((U:Int),x)with
      |some j=>
       obtain⟨hu,h7,c⟩:=O.out.found t.out.lev.inv ((HX.out j).1 d);rw[<-hc.out]at c;have hK:=t.out.lev.inv.lt h7;obtain⟨sE,_,_,_,ga,hE⟩:=t.out.at j hK;have c3:=(Z.out.cell (p:=⟨g,j*4+3,none⟩) hg).trans ga
       have he:zaR (lstS ws) (ss.getD j [])=zaR (lstS ws) (s.data.toList.take (i+1)):=by
        rw[Qo,h7];exact(zlr (Lev.words t.out.lev (λw' H=>by obtain⟨v,hv,rfl⟩:=QR.1 H;have:=HG.out.short v hv;simpa using this)) c).symm
       rw[he]at hE;obtain⟨A6,n6,c6⟩:=sE;have g1:n6=(zbb (lstS ws) s.data.toList i).length:=by rw[zjY];exact hE.1
       subst g1;unfold slV at c3;dsimp only at c3;have hd:=hIx c;have g4:=hIx hE;clear d c hE he;simp only[Xz,Option.isSome_some];obtain⟨w2,rfl⟩:∃w2:World,w2=wr:=⟨_,rfl⟩
       go_wp2
       go_loopw [10,79] (λh8 v wr=>zAb (lstS ws) s m l i w h8 v wr) (λ_ v _=>(zbb (lstS ws) s.data.toList i).length-(intOf v).toNat)
       case atStart=>exact⟨0,Qm _,rfl,by rw[XM,QE];exact HO.out,by rw[XM,QE];exact h3.out,Z.out,HM.out⟩
       case round=>
        obtain⟨q,hq,rfl,z,f,N,E⟩:=hrel;have hH:=zjY (lstS ws) s.data.toList i
        have ge:(zbb (lstS ws) s.data.toList i).length<=30:=by
         rw[hH];exact Ql (zg5 _ _) (by rw[lstS,Qh];exact HG.out.few)
        by_cases hf:q<(zbb (lstS ws) s.data.toList i).length
        ·obtain⟨g6,e6,_,hU,P⟩:=g4.out.2 (by omega)
         dsimp only at e6;subst e6;have hY:=(N.cell (p:=⟨g6,q,none⟩) hU).trans (P q (by omega));have L:=hIx (zqv (lstS ws) s.data.toList i q hf (by omega));generalize (zaR (lstS ws) (s.data.toList.take (i+1)))[q]'(by omega)=kq at hY L
         have hh:(za6 (lstS ws) s.data.toList i++(zbb (lstS ws) s.data.toList i).take q).length=(za6 (lstS ws) s.data.toList i).length+q:=by
          rw[Qa,QJ,Xn hq]
         have S:=hIx z;have hC:=hIx N;have gi:=hIx E;have gd:=N.size;have n:=z.form;obtain⟨A9,c9,rfl,_⟩:=n
         have hJ:Hid (za6 (lstS ws) s.data.toList i++(zbb (lstS ws) s.data.toList i).take (q+1)=(za6 (lstS ws) s.data.toList i++(zbb (lstS ws) s.data.toList i).take q)++[(kq,i+1)]):=by
          unfold Hid;rw[Qs hf,L.out,QG]
         have g0:=E;obtain⟨gf,ck,h5,_⟩:=g0;have hw:=z.apart h5 (λcs fz e=>by cases e);have hB:=zcU h5;have hZ:Hid (∀w5:World,w5.heap[w.heap.size]? = wr.heap[w.heap.size]? -> MpAt w5 w.heap.size l):=hIx λw5 T=>E.keep T
         have gg:(za6 (lstS ws) s.data.toList i++(zbb (lstS ws) s.data.toList i).take q).length<=250000:=by omega
         have A:m=1->Hid (za6 (lstS ws) s.data.toList i++(zbb (lstS ws) s.data.toList i).take q=[]/\[(kq,i+1)]=zmv (lstS ws) s.data.toList 1):=λe=>hIx ⟨f e,by rw[<-L.out];exact zwo (by simpa using hF) hf (f e)⟩
         clear z N E f hh h5;generalize za6 (lstS ws) s.data.toList i++(zbb (lstS ws) s.data.toList i).take q=X at *
         rcases hX.out with rfl|rfl
         ·have HH:=hIx (A rfl).out.2
          obtain rfl:=(A rfl).out.1;clear A;go_wp2_with (at_builtin;refine zaw rowH rfl _ _ rfl w.heap.size _ [] rfl S.out (by omega) _ (kq,i+1) rfl wr.heap.size rfl 1 rfl (by simp) ?_;intro v5 w5 B hj T hW;obtain⟨g7,c7,rfl,_,_⟩:=B.head (by simp));go_ret;exact⟨_,rfl,by rw[<-HH.out];exact B,hC.out.trans hj⟩
         ·have t6:(((X.length:Nat):Int)+1==-1)=false:=Qb.2 (by omega)
          go_wp2_with (at_builtin;refine zaw rowH rfl _ _ rfl w.heap.size _ X rfl S.out (by omega) _ (kq,i+1) rfl wr.heap.size rfl 1 rfl (by omega) ?_;intro v5 w5 B hj T hW;obtain⟨g7,c7,rfl,_,_⟩:=B.head (by simp));have hD:=B;rw[Qa,QC]at hD;exact⟨⟨u6,.slice g7 (X.length+1) c7,jA (kq:Int),jA ((q:Int)+1),⟨q+1,by omega,rfl,by rw[hJ.out];exact hD,λe=>absurd e (by decide),hC.out.trans hj,hZ.out _ (T _ hB hw)⟩,rfl,rfl,rfl,rfl⟩,by simp[intOf];omega⟩
        ·have e:q=(zbb (lstS ws) s.data.toList i).length:=by omega
         rw[e,QF (Qc _),<-zcR]at z f;clear e;have S:=hIx z;have h9:=hIx f;have n:=z.form;obtain⟨A9,c9,rfl,_⟩:=n;clear z f;go_wp2;exact⟨⟨i+1,j,hu,by omega,rfl,rfl,h7,hd.out,S.out,h9.out,N,E⟩,by simp[intOf] <;> omega⟩
      |none=>
       have Q:∀j,¬(0<j/\∃y,r[j]? = some y/\y.up=U/\y.b=x):=λj h=>by rw[(HX.out j).2 h]at d;cases d
       by_cases g9:U=0
       ·subst g9
        have c:=O.out.none t.out.lev.inv Q;rw[<-hc.out]at c
        have hr:zbb (lstS ws) s.data.toList i=[]:=by
         unfold zbb;rw[zlr (Lev.words t.out.lev (λw' H=>by obtain⟨v,hv,rfl⟩:=QR.1 H;have:=HG.out.short v hv;simpa using this)) c,zmF]
         ·rfl
         ·intro w' H e
          obtain⟨v,hv,rfl⟩:=QR.1 H;exact HG.out.full v hv (by have:=Zi List.length e;simpa using this)
        have hR:=hIx (zcR (lstS ws) s.data.toList i);rw[hr,QE]at hR;clear hr d Q;simp only[XB,Option.isSome_none];go_wp2;exact⟨⟨i+1,0,[],by omega,rfl,rfl,t.out.lev.inv.trie.root,c,by rw[hR.out];exact HO.out,by rw[hR.out];exact h3.out,Z.out,HM.out⟩,by simp[intOf] <;> omega⟩
       ·obtain⟨y,hy⟩:∃y,r[U]? = some y:=⟨_,Qd hn⟩
        obtain⟨ht,gh⟩:=O.out.next t.out.lev.inv (by omega) hy Q;obtain⟨_,_,_,c2,_⟩:=(t.out.below Z.out).at U hn;have hp:r[U]=y:=by rw[Qd hn]at hy;exact QD hy
        rw[hp]at c2;have g8:=hIx ht;have ho:=hz.out y.fail (by omega) x;have t5:decide (0<(U:Int))=true:=by simp;omega
        clear ht Q d hp hy;simp only[XB,Option.isSome_none];go_wp2;exact⟨⟨y.fail,rfl,rfl,rfl,g8,rfl⟩,by simp[intOf] <;> omega⟩
    ·have e:i=s.data.toList.length:=by simp;omega
     have g5:=hIx (zul e F);clear e;go_wp2;go_ret;exact⟨_,rfl,by rw[g5.out];exact hO,hb⟩
section
variable {P:Program} {ops:Array Oper} {Q:Exit->Act->World->Prop} {md:Region.Mode} {S:World->Prop} {U:Nat}
def zcC(P:Program)(e:Region.Mode)(c:Array Oper)(Q:Exit->Act->World->Prop)(S:World->Prop)(U:Nat):Nat->Array Bool->Act->World->Prop
 |0,b,a,w=>Region.ready e c b=[]/\Q .normal a w
 |d+1,b,a,w=>
  (Region.ready e c b=[]->Q .normal a w)/\
  ∀i∈Region.ready e c b,wpOp P c Q i (λf w'=>((b.setIfInBounds i true).getD U true=false->S w')/\zcC P e c Q S U d (b.setIfInBounds i true) f w') a w
theorem zj1:∀(b:Nat) (c:Array Bool) (a:Act) (w:World),zcC P md ops Q S U b c a w->wpAny P md ops Q b c a w
 |0,_,_,_,h=>h
 |b+1,_,_,_,h=>⟨h.1,λi f=>wpOp_mono (λe w' d=>zj1 b _ e w' d.2) (h.2 i f)⟩
def zhV(b:Region.Mode)(a:Array Oper):Nat->List Nat->Bool
 |_,[]=>true
 |i,v::c=>Region.waitsFor b a v i&&zhV b a v c
theorem ziO:∀(b:List Nat) (i:Nat) (a:Array Bool),zhV md ops i b=true->a.getD i true=false->(∀v∈b,a.getD v true=false)->∀v∈b,v ∉ Region.ready md ops a
 | [],_,_,_,_,_=>λv f=>absurd f (by simp)
 |u::b,i,a,h,m,c=>λv f=>by
  unfold zhV at h;rw[QU]at h
  rcases QI.1 f with rfl|f
  ·intro l
   obtain⟨q,k,e,o,hb,j⟩:=Region.waitsFor_spec h.1;obtain⟨_,p,g,d⟩:=mem_ready.1 l;rw[k]at g;obtain rfl:=QD g;have h1:=d e o hb;rw[j]at h1;rw[getD_both m]at h1;cases h1
  ·exact ziO b u a h.2 (c u (by simp)) (λx n=>c x (by simp[n])) v f
theorem zlA{i:Nat}{r:Oper}{v:Value}(K:ops[i]? = some r)(p:∀(j:Nat) (o:Oper) cs b,ops[j]? = some o->o.op≠.select cs b)
 (N:∀c a w,Q (.panic c) (a.put r.dst v) w->Q (.panic c) a w) (I:i≠U):
 ∀(g:Nat) (d:Array Bool) (a:Act) (w:World),
  (∀j t,ops[j]? = some t->j≠i->d.getD j true=false->(∀e∈t.after,Region.binds md e=true->e.on≠i)->r.apart ops t=true)->
  i∈Region.ready md ops d->YieldsIf P ops (λ_=>True) r v a->(d.getD U true=false->S w)->
  zcC P md ops Q S U g (d.setIfInBounds i true) (a.put r.dst v) w->zcC P md ops Q S U (g+1) d a w:=by
 intro g
 induction g with
 |zero=>
  intro d a w _ s C L H;refine⟨λh=>(by rw[h]at s;cases s),λj D=>?_⟩
  by_cases f:j=i
  ·subst f;exact C.wpOp K trivial ⟨λh=>L (by rwa[XW true I]at h),H⟩
  ·have:=ready_mono D f
   rw[H.1]at this;cases this
 |succ g ih=>
  intro d a w l s C L H;refine⟨λh=>(by rw[h]at s;cases s),λj D=>?_⟩
  by_cases f:j=i
  ·subst f;exact C.wpOp K trivial ⟨λh=>L (by rwa[XW true I]at h),H⟩
  ·have h1:=H.2 j (ready_mono D f)
   obtain⟨n,t,q,B⟩:=mem_ready.1 D
   have x:∀e∈t.after,Region.binds md e=true->e.on≠i:=λe V hb G=>by
    have h1:=B e V hb;rw[G,getD_both (mem_ready.1 s).1]at h1;cases h1
   have h2:=wpOp_putIf q (l j t q f n x) (λcs b=>p i r cs b K) (λcs b=>p j t cs b q) N C h1
   have m:∀k y,ops[k]? = some y->k≠i->(d.setIfInBounds j true).getD k true=false->
    (∀e∈y.after,Region.binds md e=true->e.on≠i)->r.apart ops y=true:=λk y O F A E=>by
    refine l k y O F ?_ E
    by_cases u:j=k
    ·subst u;exact n
    ·rw[XW true u]at A;exact A
   refine wpOp_mono (λT w' J=>?_) h2
   have z:(d.setIfInBounds j true).getD U true=false->S w':=λh=>J.2.1 (by
    rw[Array.setIfInBounds_comm _ _ (Xv f),XW true I];exact h)
   refine⟨z,ih (d.setIfInBounds j true) T w' m (ready_mono s (Xv f)) J.1 z ?_⟩;rw[Array.setIfInBounds_comm _ _ f];exact J.2.2
theorem zmL{i:Nat}{t:Oper}{v:Value}(X:ops[i]? = some t)(q:∀(j:Nat) (o:Oper) cs b,ops[j]? = some o->o.op≠.select cs b)
 (Y:∀c a w,Q (.panic c) (a.put t.dst v) w->Q (.panic c) a w) (hU:i≠U) (B:List Nat) (V:zhV md ops i B=true) (J:U∈B):
 ∀(g:Nat) (d:Array Bool) (a:Act) (w:World),
  (∀j y,ops[j]? = some y->j≠i->d.getD j true=false->(∀e∈y.after,Region.binds md e=true->e.on≠i)->t.apart ops y=true)->
  i∈Region.ready md ops d->(∀v∈B,d.getD v true=false)->YieldsIf P ops S t v a->S w->
  zcC P md ops Q S U g (d.setIfInBounds i true) (a.put t.dst v) w->zcC P md ops Q S U (g+1) d a w:=by
 intro g
 induction g with
 |zero=>
  intro d a w _ r _ K I H;refine⟨λh=>(by rw[h]at r;cases r),λj G=>?_⟩
  by_cases f:j=i
  ·subst f;exact K.wpOp X I ⟨λ_=>I,H⟩
  ·have:=ready_mono G f
   rw[H.1]at this;cases this
 |succ g ih=>
  intro d a w l r u K I H;refine⟨λh=>(by rw[h]at r;cases r),λj G=>?_⟩
  by_cases f:j=i
  ·subst f;exact K.wpOp X I ⟨λ_=>I,H⟩
  ·have h1:=H.2 j (ready_mono G f)
   have D:∀x∈B,j≠x:=λx L e=>ziO B i d V (mem_ready.1 r).1 u x L (e ▸ G)
   obtain⟨n,y,s,F⟩:=mem_ready.1 G
   have C:∀e∈y.after,Region.binds md e=true->e.on≠i:=λe he hb T=>by
    have h1:=F e he hb;rw[T,getD_both (mem_ready.1 r).1]at h1;cases h1
   have h2:=wpOp_putIf s (l j y s f n C) (λcs b=>q i t cs b X) (λcs b=>q j y cs b s) Y K h1
   have m:∀k E,ops[k]? = some E->k≠i->(d.setIfInBounds j true).getD k true=false->
    (∀e∈E.after,Region.binds md e=true->e.on≠i)->t.apart ops E=true:=λk E Z O p N=>by
    refine l k E Z O ?_ N
    by_cases z:j=k
    ·subst z;exact n
    ·rw[XW true z]at p;exact p
   refine wpOp_mono (λa' w' W=>?_) h2;have A:S w':=W.2.1 (by rw[XW true (D U J),XW true hU];exact u U J);refine⟨λ_=>A,ih (d.setIfInBounds j true) a' w' m (ready_mono r (Xv f)) (λx L=>by rw[XW true (D x L)];exact u x L) W.1 A ?_⟩;rw[Array.setIfInBounds_comm _ _ f];exact W.2.2
theorem zbB{i:Nat}{f:Oper}{v:Value}{e:Nat}{b:Array Bool}{a:Act}{w:World}(d:Option Tmp)(g:ops[i]? = some f)(k:f.dst=d)
 (r:Region.noSelect ops=true) (o:Region.free md ops b i=true) (q:(Region.ready md ops b).contains i=true) (m:i≠U)
 (l:∀c a w,Q (.panic c) (a.put d v) w->Q (.panic c) a w) (n:Region.wanted f (yielded ops a.tmps)=true) (p:∀w,(execOp a.eval f).run P w=.ok (.value v) w) (j:S w)
 (h:S w->zcC P md ops Q S U e (b.setIfInBounds i true) (a.put d v) w):zcC P md ops Q S U (e+1) b a w:=by
 subst k;exact zlA g (Region.noSelect_spec r) l m e b a w (Region.free_spec g o) (by simpa using q) (.inl ⟨n,λw _=>p w⟩) (λ_=>j) (h j)
theorem zdx{i:Nat}{g:Oper}{v:Value}{e:Nat}{b:Array Bool}{a:Act}{w:World}(f:List Nat)(d:Option Tmp)(m:ops[i]? = some g)(o:g.dst=d)
 (x:Region.noSelect ops=true) (s:Region.free md ops b i=true) (u:(Region.ready md ops b).contains i=true) (q:i≠U) (l:zhV md ops i f=true) (k:U∈f) (j:f.all (λv=>!b.getD v true)=true)
 (p:∀c a w,Q (.panic c) (a.put d v) w->Q (.panic c) a w) (r:Region.wanted g (yielded ops a.tmps)=true) (t:∀w,S w->(execOp a.eval g).run P w=.ok (.value v) w) (n:S w)
 (h:S w->zcC P md ops Q S U e (b.setIfInBounds i true) (a.put d v) w):zcC P md ops Q S U (e+1) b a w:=by
 subst o;exact zmL m (Region.noSelect_spec x) p q f l k e b a w (Region.free_spec m s) (by simpa using u) (λv y=>by have:=Zl.1 j v y;simpa using this) (.inl ⟨r,t⟩) n (h n)
theorem zjQ{i:Nat}{o:Oper}{c:Nat}{b:Array Bool}{a:Act}{w:World}(d:Option Tmp)(op:Op)(k:Region.ready md ops b=[i])(r:ops[i]? = some o)(m:o.dst=d)(g:o.op=op)(q:Region.wanted o (yielded ops a.tmps)=true)
 (h:∀f:Act->World->Prop,Shut (∀e w',S w'->(S w'->zcC P md ops Q S U c (b.setIfInBounds i true) e w')->f e w')->Oper.wp P ⟨d,op,o.type,o.pos,o.after,o.guard⟩ a w f Q):zcC P md ops Q S U (c+1) b a w:=by
 subst m;subst g
 refine⟨λn=>absurd (k ▸ n) (by simp),λj l=>?_⟩;rw[k]at l;obtain rfl:=Qy.1 l;refine wpOp_step r λf p=>?_
 rw[Qg q];exact h f λe w' h1 h2=>p e w' ⟨λ_=>h1,h2 h1⟩
theorem zdP{i:Nat}{o:Oper}{c:Nat}{b:Array Bool}{a:Act}{w:World}(d:Option Tmp)(op:Op)(k:Region.ready md ops b=[i])(r:ops[i]? = some o)(m:o.dst=d)(g:o.op=op)(q:Region.wanted o (yielded ops a.tmps)=true)(hl:(b.setIfInBounds i true).getD U true=true)
 (h:∀f:Act->World->Prop,Shut (∀e w',zcC P md ops Q S U c (b.setIfInBounds i true) e w'->f e w')->Oper.wp P ⟨d,op,o.type,o.pos,o.after,o.guard⟩ a w f Q):zcC P md ops Q S U (c+1) b a w:=by
 subst m;subst g
 refine⟨λn=>absurd (k ▸ n) (by simp),λj l=>?_⟩;rw[k]at l;obtain rfl:=Qy.1 l;refine wpOp_step r λf p=>?_
 rw[Qg q];exact h f λe w' h1=>p e w' ⟨λh2=>(by rw[hl]at h2;cases h2),h1⟩
theorem zn1{b:Array Bool}{a:Act}{w:World}(d:Region.ready md ops b=[])(h:Q .normal a w):∀c,zcC P md ops Q S U c b a w
 |0=>⟨d,h⟩
 |_+1=>⟨λ_=>h,by rw[d];simp⟩
theorem zn8{b:Nat}{a:Act}{w:World}(U:Nat)(S:World->Prop)(c:P.follows .mixedOrders=true)(d:S w.drew)
 (h:S w.drew->zcC P .any ops Q S U ops.size (Array.replicate ops.size false) a w.drew):(Code.region b ops true).wp P Q a w:=
 wp_region_any c (zj1 _ _ _ _ (h d))
end
theorem znA(ws:List ByteArray)(n:Nat)(_:n<40)(gY:ws.length<=30)(gw:0<ws.length)(A:Option Addr)(c B W N ga ca g cap:Nat)(ns:List zaC)(ss:List jE)(l:List (zaJ × Nat))(ats:List Nat)(w:World)
 (hS:Sl w B 1 A ws.length (ws.map Value.string)) (hL:zs9 w B W N ga ca ws n g cap ns ss l ats):
 Calls prog 143 #[.pointer W,.slice A ws.length c,jA (n:Int)] w (zig B W N ga ca ws n w):=by
 obtain⟨b,off,rfl,gR,_⟩:=zn7 hS gw;have hG:ats.length=ws.length:=by have:=hL.ats.len;rw[this,lstS,Qh]
 have HS:=hIx hS;have y:=hIx hL;clear hS hL
 go_in
 go_wp2
 go_loopw [7,17] (λv i wr=>Rel1 ws n ats w v i wr) (λ_ i _=>ws.length-(intOf i).toNat)
 case atStart=>exact⟨0,Qm _,rfl,Qj _ _,OwnG.nil _ _ _⟩
 case round=>
  obtain⟨k,hk,rfl,hb,hO⟩:=hrel
  by_cases d:k<ws.length
  ·have HO:=hIx hO
   have hh:B<=w.heap.size:=Ql y.out.mkr.base.1 (QX y.out.mkr.lt.1);obtain⟨_,_,e,_,hc⟩:=zn7 (HS.out.below (hb.mono hh)) d;injection e with e
   injection e with e1 e2 _
   subst e1;subst e2
   have hM:=y.out.mkr.below hb;have J:=(hM.at k (by omega)).1;obtain⟨_,_,gn,_⟩:=hM.cells;have ht:=hM.lt;have gS:=zg0 (lstS ws) n ats k;have h6:=hIx λh=>zt9 (ws:=ws) (n:=n) (ats:=ats) d h
   have X:=hIx λh=>zuA (ws:=ws) (n:=n) (ats:=ats) d (by omega) h
   clear hM hO;generalize ws[k]=s at hc h6 X;generalize ats[k]=a at J h6 X
   by_cases h5:n<s.size
   ·have Q:=hIx (X.out h5)
    clear h6 X;generalize hx:s[n]=x at Q;have gj:wr.heap.size<(wr.alloc (.cells #[jA (a:Int),.int .u8 x.toNat] 275)).drew.heap.size:=by simp
    have hW:wr (wr.alloc (.cells #[jA (a:Int),.int .u8 x.toNat] 275)).drew:=WaL.drew;have gr:=Qt wr (.cells #[jA (a:Int),.int .u8 x.toNat] 275);have hH:=hb.size;have HH:Hid (Calls prog 179 #[u7,.agg #[jA (a:Int),.int .u8 x.toNat]] (wr.alloc (.cells #[jA (a:Int),.int .u8 x.toNat] 275)).drew λr w'=>r=jC (.bool (decide ((a,x)∈gath (lstS ws) n ats k)))/\Below (wr.alloc (.cells #[jA (a:Int),.int .u8 x.toNat] 275)).drew.heap.size (wr.alloc (.cells #[jA (a:Int),.int .u8 x.toNat] 275)).drew w'):=hIx (zvo (HO.out.below hW) (by omega) (a,x))
    by_cases hg:(a,x)∈gath (lstS ws) n ats k
    ·rw[Qu hg]at HH
     rw[Qg hg]at Q;go_wp2_with fail
     go_region
     go_wp2_with (go_at_call 179;refine HH.out.mono ?_;rintro e w2 ⟨rfl,z⟩);exact⟨⟨k+1,by omega,rfl,(hb.trans (hW.mono hH)).trans (z.mono (by simp;omega)),by rw[Q.out];exact(HO.out.below hW).below z⟩,by simp[intOf] <;> omega⟩
    ·rw[Qq hg]at HH
     rw[Qe hg]at Q;go_wp2_with fail
     go_region
     go_wp2_with (first|(go_at_call 179;refine HH.out.mono ?_;rintro e w2 ⟨rfl,z⟩;have g9:=(z.block wr.heap.size gj).trans gr;have hd:=Qf w2 wr.heap.size 0 _ _ _ g9;have hT:=Qf w2 wr.heap.size 1 _ _ _ g9;have gf:=(HO.out.below hW).below z;have gu:=z.size;simp at gu)|(at_builtin;refine zaw rowE rfl _ _ rfl w.heap.size _ (gath (lstS ws) n ats k) rfl gf (by omega) _ (a,x) rfl w2.heap.size rfl 1 rfl (by omega) ?_;intro v' w3 gs t k5 hJ));exact⟨⟨k+1,by omega,rfl,((hb.trans (hW.mono hH)).trans (z.mono (by simp;omega))).trans t,by rw[Q.out];exact gs⟩,by simp[intOf] <;> omega⟩
   ·have Q:=hIx (h6.out h5)
    clear h6 X;go_wp2;exact⟨⟨k+1,by omega,rfl,hb,by rw[Q.out];exact HO.out⟩,by simp[intOf] <;> omega⟩
  ·obtain rfl:k=ws.length:=by omega
   have HR:=hIx (zux hO hb.size (zqr y.out.lev.inv y.out.ats y.out.few) (by have:=zg0 (lstS ws) n ats ws.length;omega));have Q:=hIx (hO.form);have gx:=hO.form;obtain⟨A0,c0,rfl,_⟩:=gx;have hh:B<=w.heap.size:=Ql y.out.mkr.base.1 (QX y.out.mkr.lt.1);clear hO Q;go_wp2_with (go_at_call 180;refine HR.out.mono ?_;rintro e w1 ⟨rfl,z,es,C,hE⟩);have ge:=C.length_eq;have HE:Hid (EdgesOf (lstS ws) n ats es):=hIx (EdgesOf.perm (by have:=zpI (lstS ws) n ats;rwa[show (lstS ws).length=ws.length by rw[lstS,Qh]]at this) C);have hz:=hb.trans z;have hD:=y.out.mkr.below hz;clear HR hb z d hk;have k1:es.length<=30:=by have:=zg0 (lstS ws) n ats ws.length;omega
   generalize (gath (lstS ws) n ats ws.length).length=m at *;subst ge
   go_loopw [50] (λi wr=>Rel2 B W N ga ca ws n ats w es ss (.slice A0 es.length c0) i wr) (λi _=>es.length-(intOf i).toNat)
   case atStart=>exact⟨0,g,cap,ns,ss,l,Qm _,rfl,hz.mono hh,hE,hD,⟨y.out.lev.inv,by simp⟩,y.out.next,y.out.few⟩
   case round=>
    obtain⟨k,g2,H,u,gz,l2,hk,rfl,t,ha,S,E,D,P⟩:=hrel;have hy:=hIx t;clear hz hD hE t
    by_cases d:k<es.length
    ·obtain⟨p,Y,hY,h8,gg⟩:=E.next y.out.lev y.out.ats HE.out d
     obtain⟨gE,k6,k7,cE,gq,gi,g0,hm,hq⟩:=ha.at k d;injection gq with e1 e2 e3
     subst e1;subst e3
     obtain⟨hd,hT,gp,gy⟩:=S.cells;rw[Qh]at hd;have HM:=hIx S;have gC:=hIx ha;have f:=hIx E;have HN:=hIx D;clear S ha E D C e2;have ht:=HM.out.lt;have ka:Hid (es[k]? = some es[k]):=hIx (Qd d);generalize he:es[k]=e at *;obtain⟨up,x⟩:=e;dsimp only at Y hY h8 hm hq
     by_cases h4:u.length=400
     ·rw[h4]at hd
      have hR:B<=wr.heap.size:=Ql hh (Ql (QX (by have:=gi;have:=(QV.1 g0).1;omega)) (Qc _));go_wp2;go_ret;exact⟨hy.out.alloc hR _,.inl ⟨rfl,f.out.full y.out.lev y.out.ats HE.out d h4⟩⟩
     ·have k0:(u.length==400)=false:=Qb.2 h4
      have gL:((u.length:Int)==400)=false:=Qb.2 (by omega);have hR:w.heap.size<wr.heap.size:=by have:=(QV.1 g0).1;omega
      have gv:=zwW f.out.inv HN.out Y h8;obtain⟨o,h7⟩:=zdI HM.out.map ((up:Int),x) u.length ⟨by omega,by have:=f.out.inv.lt Y;show (up:Int)<_;omega⟩ gv
      have hu:(Instr.mapUpdate 240 (.map (some N)) (.agg #[jA (up:Int),.int .u8 x.toNat]) (jA (u.length:Int))).run prog (wr.alloc (.cells #[jA (up:Int),.int .u8 x.toNat] 275)).drew=.ok () (ChangeMaps.setBlock (wr.alloc (.cells #[jA (up:Int),.int .u8 x.toNat] 275)).drew N o):=
       (h7 (wr.alloc (.cells #[jA (up:Int),.int .u8 x.toNat] 275)).drew (Qr _ _ _ ht.2.2.2)).1
      have Z:=(h7 (wr.alloc (.cells #[jA (up:Int),.int .u8 x.toNat] 275)).drew (Qr _ _ _ ht.2.2.2)).2;clear h7;go_upto_region 16 with fail
      go_wp2_with fail
      go_region
      have gd:Below B wr (ChangeMaps.setBlock (wr.alloc (.cells #[jA (up:Int),.int .u8 x.toNat] 275)).drew N o):=((Qj _ _).alloc (by omega) _).drew.trans (zdc _ _ _ _ HM.out.low.2)
      have h0:(ChangeMaps.setBlock (wr.alloc (.cells #[jA (up:Int),.int .u8 x.toNat] 275)).drew N o).heap[wr.heap.size]? = some (.cells #[jA (up:Int),.int .u8 x.toNat] 275):=
       (zlb _ _ _ _ (by omega)).trans (Qt wr (.cells #[jA (up:Int),.int .u8 x.toNat] 275))
      have hP:∀j,j<wr.heap.size->N≠j->(ChangeMaps.setBlock (wr.alloc (.cells #[jA (up:Int),.int .u8 x.toNat] 275)).drew N o).heap[j]? = wr.heap[j]? := λj hj hs=>
       (zlb _ _ _ _ hs).trans (Qr wr (.cells #[jA (up:Int),.int .u8 x.toNat] 275) j hj)
      have V:=(HM.out.below (((Qj _ _).alloc (Qc _) (.cells #[jA (up:Int),.int .u8 x.toNat] 275)).drew)).put Z;have k4:wr.heap.size<(ChangeMaps.setBlock (wr.alloc (.cells #[jA (up:Int),.int .u8 x.toNat] 275)).drew N o).heap.size:=(QV.1 h0).1;clear hu Z;generalize ChangeMaps.setBlock (wr.alloc (.cells #[jA (up:Int),.int .u8 x.toNat] 275)).drew N o=W2 at *
      have g1:∀(j:Nat) cs fz,wr.heap[j]? = some (.cells cs 275 fz)->N≠j:=λj cs fz hj e=>by
       obtain⟨gV,ck,hV,_⟩:=HM.out.map;rw[e,hj]at hV;cases hV
      have gt:=hIx (gC.out.keep λj cs fz hj=>hP j (zcU hj) (g1 j cs fz hj));have hF:=hIx (ztE f.out.inv HN.out P Y h8 u.length (w:=W2.drew) (by have:=V.toF;rw[zoQ]at this;exact this.drew));have hU:=Qf W2 wr.heap.size 0 _ _ _ h0;have hi:=Qf W2 wr.heap.size 1 _ _ _ h0;obtain⟨hA,_,_,gU⟩:=V.cells;rw[Qh]at hA;have h9:=hIx V;have gJ:=V.lt;clear V hd hT gp gy hm hq hP g1;go_upto_region 17 with fail
      have hI:=h9.out.ne.1;have hZ:=hIx (Rel2.step d he hy.out gd gt.out h9.out f.out HN.out P h4 Y hY h8 gg);have gF:=hIx (λ(w3:World) (h3:W2 w3)=>h9.out.below h3);have kd:wr.heap.size≠g2:=by omega
      have gk:W2.drew.cell? W=some (.slice g2 u.length H)/\W2.drew.cell? ⟨wr.heap.size,0,none⟩=some (jA (up:Int))/\W2.drew.cell? ⟨wr.heap.size,1,none⟩=some (.int .u8 x.toNat):=⟨hA,hU,hi⟩
      refine zn8 14 (λw'=>w'.cell? W=some (.slice g2 u.length H)/\w'.cell? ⟨wr.heap.size,0,none⟩=some (jA (up:Int))/\w'.cell? ⟨wr.heap.size,1,none⟩=some (.int .u8 x.toNat)) (by kernel_rfl) gk ?_;intro gl;refine zbB (i:=0) (v:=?v0) (some 70) rfl rfl (by kernel_rfl) (by kernel_rfl) (by kernel_rfl) (by decide) (λ_ _ _ h=>h) (by rfl) ?hy0 (by assumption) ?rest0
      case hy0=>(intro w;go_simp;try rfl)
      intro gl;simp only[Act.put,Q1,Za,Zf];refine zbB (i:=1) (v:=?v1) (some 71) rfl rfl (by kernel_rfl) (by kernel_rfl) (by kernel_rfl) (by decide) (λ_ _ _ h=>h) (by rfl) ?hy1 (by assumption) ?rest1
      case hy1=>(intro w;go_simp;try rfl)
      intro ke;simp only[Act.put,Q1,Za,Zf];refine zbB (i:=2) (v:=?v2) (some 72) rfl rfl (by kernel_rfl) (by kernel_rfl) (by kernel_rfl) (by decide) (λ_ _ _ h=>h) (by rfl) ?hy2 (by assumption) ?rest2
      case hy2=>(intro w;go_simp;try rfl)
      intro k3;simp only[Act.put,Q1,Za,Zf];refine zbB (i:=3) (v:=?v3) (some 73) rfl rfl (by kernel_rfl) (by kernel_rfl) (by kernel_rfl) (by decide) (λ_ _ _ h=>h) (by rfl) ?hy3 (by assumption) ?rest3
      case hy3=>(intro w;go_simp;try rfl)
      intro gO;simp only[Act.put,Q1,Za,Zf];refine zdx (i:=4) (v:=?v4) [14] (some 74) rfl rfl (by kernel_rfl) (by kernel_rfl) (by kernel_rfl) (by decide) (by kernel_rfl) (by decide) (by kernel_rfl) (λ_ _ _ h=>h) (by rfl) ?hy4 (by assumption) ?rest4
      case hy4=>(intro w I;(try dsimp only at I);go_simp;try rfl)
      intro k9;simp only[Act.put,Q1,Za,Zf];refine zbB (i:=5) (v:=?v5) (some 75) rfl rfl (by kernel_rfl) (by kernel_rfl) (by kernel_rfl) (by decide) (λ_ _ _ h=>h) (by rfl) ?hy5 (by assumption) ?rest5
      case hy5=>(intro w;go_simp;try rfl)
      intro gQ;simp only[Act.put,Q1,Za,Zf];refine zdx (i:=6) (v:=?v6) [12,13,14] (some 76) rfl rfl (by kernel_rfl) (by kernel_rfl) (by kernel_rfl) (by decide) (by kernel_rfl) (by decide) (by kernel_rfl) (λ_ _ _ h=>h) (by rfl) ?hy6 (by assumption) ?rest6
      case hy6=>(intro w I;(try dsimp only at I);go_simp;try rfl)
      intro kf;simp only[Act.put,Q1,Za,Zf];refine zbB (i:=7) (v:=?v7) (some 77) rfl rfl (by kernel_rfl) (by kernel_rfl) (by kernel_rfl) (by decide) (λ_ _ _ h=>h) (by rfl) ?hy7 (by assumption) ?rest7
      case hy7=>(intro w;go_simp;try rfl)
      intro kb;simp only[Act.put,Q1,Za,Zf];refine zdx (i:=8) (v:=?v8) [12,13,14] (some 78) rfl rfl (by kernel_rfl) (by kernel_rfl) (by kernel_rfl) (by decide) (by kernel_rfl) (by decide) (by kernel_rfl) (λ_ _ _ h=>h) (by rfl) ?hy8 (by assumption) ?rest8
      case hy8=>(intro w I;(try dsimp only at I);go_simp;try rfl)
      intro gK;simp only[Act.put,Q1,Za,Zf];refine zbB (i:=9) (v:=?v9) (some 79) rfl rfl (by kernel_rfl) (by kernel_rfl) (by kernel_rfl) (by decide) (λ_ _ _ h=>h) (by rfl) ?hy9 (by assumption) ?rest9
      case hy9=>(intro w;go_simp;try rfl)
      intro gM;simp only[Act.put,Q1,Za,Zf];refine zdx (i:=10) (v:=?v10) [11,12,13,14] (some 80) rfl rfl (by kernel_rfl) (by kernel_rfl) (by kernel_rfl) (by decide) (by kernel_rfl) (by decide) (by kernel_rfl) (λ_ _ _ h=>h) (by rfl) ?hy10 (by assumption) ?rest10
      case hy10=>(intro w I;(try dsimp only at I);go_simp;try rfl)
      intro gI;simp only[Act.put,Q1,Za,Zf];refine zjQ (i:=11) (some 81) (.call {callee:=.value (.func 182),args:=#[.tmp 79,.tmp 80],argTypes:=#[237,275]}) (by kernel_rfl) rfl rfl rfl (by rfl) ?_;intro gZ g5
      go_simp
      go_at_call 182
      refine hF.out.mono ?_;rintro e w3 ⟨⟨r,rfl,hr⟩,ho⟩;have t:W2 w3:=undrew ho;have gA:=hIx (h9.out.below t).own;have hJ:=t.size;refine g5.out _ _ ⟨zaa t hA,zaa t hU,zaa t hi⟩ λG=>?_
      try simp only[Act.put,Q1,Za,Zf]
      refine zbB (i:=12) (v:=?v12) (some 82) rfl rfl (by kernel_rfl) (by kernel_rfl) (by kernel_rfl) (by decide) (λ_ _ _ h=>h) (by rfl) ?hy12 (by assumption) ?rest12
      case hy12=>(intro w;go_simp;try rfl)
      intro gH
      try simp only[Act.put,Q1,Za,Zf]
      refine zjQ (i:=13) (some 83) (.buildSlice 192 1 #[(0,.tmp 82)]) (by kernel_rfl) rfl rfl rfl (by rfl) ?_;intro gT hN
      go_simp
      refine hN.out _ _ ⟨zaa WaL G.1,zaa WaL G.2.1,zaa WaL G.2.2⟩ λhX=>?_
      try simp only[Act.put,Q1,Za,Zf]
      refine zdP (i:=14) (some 84) (.call {callee:=.builtin .append,args:=#[.tmp 74,.tmp 83],argTypes:=#[192,192]}) (by kernel_rfl) rfl rfl rfl (by rfl) (by kernel_rfl) ?_;intro gN gc;refine zeN rowN (.tmp 74) (.tmp 83) rfl B (.slice g2 u.length H) (u.map nilE) rfl (by have:=gA.out;rwa[Qh]at this) (by have:=t.size;omega) _ (nilE ⟨x,up,r⟩) rfl _ rfl 1 rfl (by rw[Qh];omega) ?_;intro v4 w4 hw gb g6 gB;obtain⟨g4,c4,rfl,_,_⟩:=hw.head (by simp);have O:∀j,j<w3.heap.size->g2≠j->w4.heap[j]? = w3.heap[j]? := λj hj hs=>g6 j hj (λe=>hs (QD e))
      have e0:w4.cell? W=some (.slice g2 u.length H):=(zea (O W (by omega) (Xv hI)) 0).trans G.1;have ef:w4.frozen? ⟨W,0,none⟩=false:=(zmx (O W (by omega) (Xv hI)) 0).trans (gF.out w3 t).cells.2.2.2;refine gc.out _ _ ?_
      try simp only[Act.put,Q1,Za,Zf]
      refine zdP (i:=15) (some 85) (.nilCheck (.tmp 70)) (by kernel_rfl) rfl rfl rfl (by rfl) (by kernel_rfl) ?_;intro k8 hC
      go_simp
      refine hC.out _ _ ?_
      try simp only[Act.put,Q1,Za,Zf]
      refine zdP (i:=16) (some 86) (.fieldAddr 242 (.tmp 85) 0) (by kernel_rfl) rfl rfl rfl (by rfl) (by kernel_rfl) ?_;intro k2 g8
      go_simp
      refine g8.out _ _ ?_
      try simp only[Act.put,Q1,Za,Zf]
      refine zdP (i:=17) none (.store 192 (.tmp 86) (.tmp 84)) (by kernel_rfl) rfl rfl rfl (by rfl) (by kernel_rfl) ?_;intro gW g7
      go_simp
      refine g7.out _ _ ?_;refine zn1 (by kernel_rfl) ?_ _;have gD:=hZ.out r w3 w4 g4 c4 hr t hw gb O;clear t ho hw gb O g6 gB hJ G hX;go_wp2;exact⟨gD,by simp[intOf] <;> omega⟩
    ·obtain rfl:k=es.length:=by omega
     obtain⟨_,_,hB,_⟩:=S.cells;have HM:=hIx S;have f:=hIx E;have HN:=hIx D;have HF:=hIx P;clear S E D ha C hB d hk P;go_wp2
     go_loopw [90] (λi wq=>Rel3 B W N ga ca ws n w ats u gz l2 g2 H i wq) (λi _=>ws.length-(intOf i).toNat)
     case atStart=>exact⟨0,ats,Qm _,rfl,hy.out,HM.out,hG,λj hj=>absurd hj (by omega),λ_ _=>rfl⟩
     case round=>
      obtain⟨k,L,hk,rfl,hf,F,K,U,T⟩:=hrel
      by_cases d:k<ws.length
      ·obtain⟨_,_,e,_,hc⟩:=zn7 (HS.out.below hf) d
       injection e with e
       injection e with e1 e2 _
       subst e1;subst e2
       obtain⟨_,kc,gn,_⟩:=F.cells;obtain⟨J,gG⟩:=F.at k (by omega);have Q:=hIx (Rel3.pass y.out.ats f.out d (hb:=hf) (hM:=F) (hl:=K) (h1:=U) (h2:=T));have HG:=hIx (Rel3.go y.out.ats HE.out f.out HN.out d (hb:=hf.drew) (hM:=F.below (Qj _ _).drew) (hl:=K) (h1:=U) (h2:=T));have hp:=F.map;have hv:L.getD k 0=L[k]:=by rw[Qo,Qd (by omega)];rfl
       rw[hv]at HG
       have hQ:L[k]<65536:=by
        have h1:=y.out.lev.inv.lt (y.out.ats.str k (by rw[lstS,Qh];exact d));have h2:=y.out.few;rw[<-T k (Qc _),hv]at h1;omega
       clear F U T hv;generalize ws[k]=s at hc Q HG;generalize L[k]=a at J HG hQ
       by_cases h5:n<s.size
       ·obtain⟨q,g3,gX,hK⟩:=HG.out h5
        have HQ:=hIx hK;clear HG Q hK;generalize hx:s[n]=x at g3
        have gP:(Instr.lookup 240 (.map (some N)) (.agg #[jA (a:Int),.int .u8 x.toNat]) false).run prog wr.drew=.ok (jA (q:Int)) wr.drew:=by
         have:=zlo (w:=wr.drew) (MpAt.keep hp rfl) ((a:Int),x) ⟨by omega,by show (a:Int)<_;omega⟩;rw[g3]at this;exact this
        clear hp;go_wp2_with fail
        go_region
        go_wp2;exact⟨HQ.out,by simp[intOf] <;> omega⟩
       ·have gh:=hIx (Q.out h5)
        clear HG Q;go_wp2;exact⟨gh.out,by simp[intOf] <;> omega⟩
      ·obtain rfl:k=ws.length:=by omega
       have HD:=hIx (Rel3.done y.out.lev y.out.ats HE.out f.out HN.out HF.out hf F K U);clear F U T;go_wp2;go_ret;exact HD.out
