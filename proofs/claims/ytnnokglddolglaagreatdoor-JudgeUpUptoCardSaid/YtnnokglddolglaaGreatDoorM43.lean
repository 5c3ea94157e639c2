/- Lemmas for the last texts. -/
import Derived.Test.YtnnokglddolglaaGreatDoorM32
import Derived.Test.YtnnokglddolglaaGreatDoorM42
import Derived.Lib.ItoaMem
set_option maxHeartbeats 6400000
set_option maxRecDepth 100000
namespace Go.Proofs.YtnnokglddolglaaGreatDoor
open Go.RowKit Go.Proofs.Tryz
theorem zou(x y:List UInt8):bs x++bs y=bs (x++y):=by
 apply ByteArray.ext
 simp[bs]
def clN:ByteArray:=ByteArray.mk #[67,111,110,116,101,110,116,45,76,101,110,103,116,104]
def clB(n:Nat):zao:=(clN,bs (Lib.decDigits n))
def fwdH(h:zbh)(n:Nat):zbh:=⟨h.m,h.t,za2 h.fs++(if (zaz h).1=1 then []else [clB n])⟩
def fwdE(h:zbh)(b:List UInt8):Int:=
 if zak h≠0 then zak h else if (zaz h).2.2≠0 then (zaz h).2.2 else if (zaz h).1=1/\b≠[]then 4 else if 4096<b.length then 6 else zak (fwdH h b.length)
def zf2(h:zbh)(b:List UInt8)(w:World)(e:Ending)(w':World):Prop:=
 ((fwdE h b=0/\e=.returned (.tuple #[.string (bs (zaT (fwdH h b.length)++b)),.int .i64 0]))\/(fwdE h b≠0/\e=.returned (.tuple #[.string (.mk #[]),.int .i64 (fwdE h b)])))/\Below w.heap.size w w'
theorem ztP(n:Nat)(h:n<=9223372036854775807):(Lib.decDigits n).length<=21:=by
 have:=Lib.itoa_length_le (n:Int) (by omega) (by omega);rw[Lib.itoa_nonneg]at this;exact this
theorem zrL{a:List zao}{f:zao}(h:f∈za2 a):f∈a:=(ZB.1 h).1
theorem zyj{h:zbh}{n:Nat}{f:zao}(a:f∈(fwdH h n).fs):f∈h.fs\/f=clB n:=by
 unfold fwdH at a
 rcases QN.1 a with h|h
 ·exact .inl (zrL h)
 ·split at h
  ·cases h
  ·exact .inr (QE.1 h)
theorem zyS(h:zbh)(n:Nat):(fwdH h n).fs.length<=h.fs.length+1:=by
 unfold fwdH;rw[Qa];have:(za2 h.fs).length<=h.fs.length:=Zl _ _
 split <;> simp <;> omega
theorem ziX(h:zbh)(b:ByteArray)(A:Option Addr)(c:Nat)(w:World)(hf:Sl w w.heap.size 2 A h.fs.length (h.fs.flatMap zaL))(hm:h.m.size<=maxLen)(ht:h.t.size<=maxLen)(h5:b.size<=maxLen)(h7:zgN h.fs)(hr:LibOk w)(hp:TabOk w):
 Calls prog 36 #[.agg #[.string h.m,.string h.t,.slice A h.fs.length c,.string b]] w (zf2 h b.data.toList w):=by
 obtain⟨m,t,a⟩:=h;dsimp only at *
 have g0:∀W,Below (w.heap.size+1) (w.alloc (.cells #[.string m,.string t,.slice A a.length c,.string b] 29)) W->(W.cell? ⟨w.heap.size,0,none⟩=some (.string m)/\W.cell? ⟨w.heap.size,1,none⟩=some (.string t)/\W.cell? ⟨w.heap.size,2,none⟩=some (.slice A a.length c)/\W.cell? ⟨w.heap.size,3,none⟩=some (.string b))/\Below w.heap.size w W/\Sl W W.heap.size 2 A a.length (a.flatMap zaL)/\LibOk W/\TabOk W:=λW hb=>by
  obtain⟨h1,h2⟩:=zbH hb;exact⟨⟨h1 0,h1 1,h1 2,h1 3⟩,h2,(hf.below h2).more h2.size,hr.below h2,hp.below h2⟩
 have d:=hIx g0;obtain⟨J,hh⟩:∃J,w.alloc (.cells #[.string m,.string t,.slice A a.length c,.string b] 29)=J:=⟨_,rfl⟩
 have o:w.heap.size+1<=J.heap.size:=by rw[<-hh];simp
 rw[hh]at d;have gz:=hIx hh;have hl:=h7.n;have g5:b.data.toList.length=b.size:=by simp
 have hs:∀f∈a,f.1.size<=maxLen/\f.2.size<=maxLen:=λf hf=>by have:=h7.sz f hf;unfold maxLen;omega
 have h6:Hid (Calls prog 56 #[.agg #[.string m,.string t,.slice A a.length c]] J λe w'=>e=.returned (.int .i64 (zak ⟨m,t,a⟩))/\Below J.heap.size J w'):=zeE ⟨m,t,a⟩ A c J (d.out J (Qg _ _)).2.2.1 hm ht hs (by show a.length<=_;omega);have h4:∀W,Below (w.heap.size+1) J W->Calls prog 43 #[.agg #[.string m,.string t,.slice A a.length c]] W (zpT (zaz ⟨m,t,a⟩) W):=λW h=>zxC m t A a.length c a W rfl (d.out W h).2.2.1 (λf hf=>(hs f hf).1) (λf hf=>(hs f hf).2) (by omega)
 have hL:(zaz ⟨m,t,a⟩).2.2=4\/((zaz ⟨m,t,a⟩).2.2=0/\((zaz ⟨m,t,a⟩).1=1\/(zaz ⟨m,t,a⟩).1=3\/((zaz ⟨m,t,a⟩).1=2/\0<=(zaz ⟨m,t,a⟩).2.1/\(zaz ⟨m,t,a⟩).2.1<1000000000))):=zmo (getL a clen) (getL a tenc);have hz:Hid (∀W,Below (w.heap.size+1) J W->Calls prog 57 #[.agg #[.string m,.string t,.slice A a.length c]] W (zhX ⟨m,t,a⟩ W)):=λW h=>zuf ⟨m,t,a⟩ A c W (d.out W h).2.2.1 h7 (d.out W h).2.2.2.1
 have ha:Hid (fwdE ⟨m,t,a⟩ b.data.toList=if zak ⟨m,t,a⟩≠0 then zak ⟨m,t,a⟩else if (zaz ⟨m,t,a⟩).2.2≠0 then (zaz ⟨m,t,a⟩).2.2 else if (zaz ⟨m,t,a⟩).1=1/\b.data.toList≠[]then 4 else if 4096<b.size then 6 else zak (fwdH ⟨m,t,a⟩ b.size)):=by unfold Hid fwdE;rw[g5]
 have hk:Hid ((fwdH ⟨m,t,a⟩ b.size).fs=za2 a++(if (zaz ⟨m,t,a⟩).1=1 then []else [clB b.size])):=rfl;have g2:=zyS ⟨m,t,a⟩ b.size
 have hS:Hid (∀f∈(fwdH ⟨m,t,a⟩ b.size).fs,f.1.size<=maxLen/\f.2.size<=maxLen):=λf hf=>by
  rcases zyj hf with h|rfl
  ·exact hs f h
  ·have:=ztP b.size (by unfold maxLen at h5;omega)
   exact⟨by show 14<=maxLen;decide,by show (bs _).size<=maxLen;rw[zaj];unfold maxLen;omega⟩
 have hR:Hid (∀(A:Option Addr) (c:Nat) (W:World),Sl W W.heap.size 2 A (fwdH ⟨m,t,a⟩ b.size).fs.length ((fwdH ⟨m,t,a⟩ b.size).fs.flatMap zaL)->Calls prog 42 #[.agg #[.string m,.string t,.slice A (fwdH ⟨m,t,a⟩ b.size).fs.length c]] W (zdU (fwdH ⟨m,t,a⟩ b.size) W)):=λA c W h=>
  zrG (fwdH ⟨m,t,a⟩ b.size) A c W h hm ht hS.out (Qn g2 (by show a.length+1<=_;omega))
 have gv:Hid (zak (fwdH ⟨m,t,a⟩ b.size)=0->(zaT (fwdH ⟨m,t,a⟩ b.size)).length<=31154):=λhc=>zkA _ (zek hc)
 have u:Hid (∀(E:Int) W,fwdE ⟨m,t,a⟩ b.data.toList=E->E≠0->Below w.heap.size w W->zf2 ⟨m,t,a⟩ b.data.toList w (.returned (.tuple #[.string (.mk #[]),.int .i64 E])) W):=λE W h1 h2 h3=>⟨.inr ⟨by rw[h1];exact h2,by rw[h1]⟩,h3⟩
 have ge:Hid (∀(P:ByteArray) W,fwdE ⟨m,t,a⟩ b.data.toList=0->P=bs (zaT (fwdH ⟨m,t,a⟩ b.size)++b.data.toList)->Below w.heap.size w W->zf2 ⟨m,t,a⟩ b.data.toList w (.returned (.tuple #[.string P,.int .i64 0])) W):=λP W h1 h2 h3=>⟨.inl ⟨h1,by rw[h2,g5]⟩,h3⟩
 have hG:Hid (∀W,Below (w.heap.size+1) J W->Calls prog 58 #[.int .i64 (b.size:Int)] W λe w'=>e=.returned (.string (bs (Lib.decDigits b.size)))/\Below W.heap.size W w'):=λW h=>zhn b.size W (by unfold maxLen at h5;omega) (d.out W h).2.2.2.2
 generalize zaz ⟨m,t,a⟩=r at *;obtain⟨K,N,E⟩:=r;dsimp only at hL ha hk;unfold zpT ofV at h4;dsimp only at h4;have hU:=hIx h4;have hZ:=hIx hL;have gG:b.size<=9223372036854775807:=by unfold maxLen at h5;omega
 generalize gq:fwdH ⟨m,t,a⟩ b.size=k at *;have gE:(za2 a).length<=a.length:=Zl _ _;have ⟨⟨b0,b1,b2,b3⟩,_⟩:=d.out J (Qg _ _);clear g0 hh h4 hL hf hm ht h7 hr hp hs h5 g2 gq
 go_in
 go_upto_region 1 with fail
 rw[gz.out]
 by_cases D:zak ⟨m,t,a⟩=0
 rotate_left
 ·have q0:(zak ⟨m,t,a⟩ != 0)=true:=Q6.2 D
  have U:Hid (fwdE ⟨m,t,a⟩ b.data.toList=zak ⟨m,t,a⟩/\zak ⟨m,t,a⟩≠0):=⟨by rw[ha.out,Qi D],D⟩
  clear D;generalize zak ⟨m,t,a⟩=C at *;go_wp2_with (go_at_call 56;(with_reducible refine h6.out.mono ?_);rintro e w1 ⟨rfl,s⟩;have F:=(d.out _ (s.mono o)).2.1);exact Qj (v:=.tuple #[.string (.mk #[]),.int .i64 C]) (by simp[results,results36,go_sem]) rfl (u.out _ _ U.out.1 U.out.2 F)
 ·have S:Hid (fwdE ⟨m,t,a⟩ b.data.toList=if E≠0 then E else if K=1/\b.data.toList≠[]then 4 else if 4096<b.size then 6 else zak k):=by unfold Hid;rw[ha.out,Qe (λh=>h D)]
  rw[D]at h6;clear D ha;go_wp2_with fail;refine h6.out.mono ?_;rintro e w1 ⟨rfl,s⟩;have s:=s.mono o;have gf:w.heap.size+1<=w1.heap.size:=Qn o s.size;clear b0 b1 b2 b3;have ⟨⟨b0,b1,b2,b3⟩,_⟩:=d.out w1 s;go_wp2_with fail;refine(hU.out w1 s).mono ?_;rintro e w2 ⟨rfl,T⟩;have T:=s.trans (T.mono gf);have g8:w.heap.size+1<=w2.heap.size:=Qn o T.size;have gJ:w.heap.size<w2.heap.size:=g8;have hJ:=T.alloc g8 (.cells #[.int .i64 K,.int .i64 N] 114);clear b0 b1 b2 b3;have ⟨⟨b0,b1,b2,b3⟩,gi,_⟩:=d.out w2 T;have I:=hIx (d.out _ hJ).2.1;have hd:=hIx hJ;have hX:=λW h=>(zbH (w:=w2) (W':=W) (cs:=#[.int .i64 K,.int .i64 N]) (t:=114) h).1 0
  have g9:=hIx hX;clear s T hJ gi gf hX h6 hU
  rcases hZ.out with rfl|⟨rfl,hK⟩
  ·have U:Hid (fwdE ⟨m,t,a⟩ b.data.toList=4):=S.out
   clear S;go_wp2;exact Qj (v:=.tuple #[.string (.mk #[]),.int .i64 4]) (by simp[results,results36,go_sem]) rfl (u.out 4 _ U.out (by decide) I.out)
  ·have O:Hid (fwdE ⟨m,t,a⟩ b.data.toList=if K=1/\b.data.toList≠[]then 4 else if 4096<b.size then 6 else zak k):=S.out
   clear S hZ
   by_cases y:K=1/\b.data.toList≠[]
   ·have U:Hid (fwdE ⟨m,t,a⟩ b.data.toList=4):=by unfold Hid;rw[O.out,Qi y]
    obtain⟨rfl,gk⟩:=y;have he:b.toList.isEmpty=false:=by rw[QS];cases hq:b.data.toList with|nil=>exact absurd hq gk|cons=>rfl
    clear O gk hK;go_wp2;exact Qj (v:=.tuple #[.string (.mk #[]),.int .i64 4]) (by simp[results,results36,go_sem]) rfl (u.out 4 _ U.out (by decide) I.out)
   ·have L:Hid (fwdE ⟨m,t,a⟩ b.data.toList=if 4096<b.size then 6 else zak k):=by unfold Hid;rw[O.out,Qe y]
    have g6:=hIx y;have HK:=hIx hK;clear O y hK;go_upto_region 7 with fail
    go_cut [25]from 26 to 33 (λgB wx=>gB=.bool false/\wx=w2.alloc (.cells #[.int .i64 K,.int .i64 N] 114))
    case first=>
     by_cases l:K=1
     ·have he:b.toList.isEmpty=true:=by
       rw[QS];cases hq:b.data.toList with
       |nil=>rfl
       |cons=>exact absurd ⟨l,by rw[hq];exact List.cons_ne_nil _ _⟩ g6.out
      have hq:(b.toList != [])=false:=by
       rw[bne,Bool.not_eq_false',Zk]
       simpa using he
      subst l;go_wp2;go_meet;exact⟨rfl,rfl⟩
     ·have hq:(K==1)=false:=Qb.2 l
      clear l;go_wp2;go_meet;exact⟨rfl,rfl⟩
    case rest=>
     obtain⟨rfl,rfl⟩:=hcut
     by_cases ho:4096<b.size
     ·have d2:decide ((4096:Int)<(b.size:Int))=true:=Qu (by omega)
      have U:Hid (fwdE ⟨m,t,a⟩ b.data.toList=6):=by unfold Hid;rw[L.out,Qi ho]
      clear ho L;go_wp2;exact Qj (v:=.tuple #[.string (.mk #[]),.int .i64 6]) (by simp[results,results36,go_sem]) rfl (u.out 6 _ U.out (by decide) I.out)
     ·have d2:decide ((4096:Int)<(b.size:Int))=false:=Qs (by omega)
      have hy:Hid (fwdE ⟨m,t,a⟩ b.data.toList=zak k):=by unfold Hid;rw[L.out,Qe ho]
      have gF:b.size<=4096:=by omega
      clear L ho;have hT:=hIx (hz.out _ hd.out);go_wp2_with fail;refine hT.out.mono ?_;rintro e i ⟨G,c4,rfl,g4,H⟩;have V:=g9.out i (H.mono (by simp));have H:=hd.out.trans (H.mono (Qn o hd.out.size));have gg:w.heap.size<i.heap.size:=Qn o H.size;have gD:w2.heap.size<i.heap.size:=QT i ⟨w2.heap.size,0,none⟩ V;clear b0 b1 b2 b3;have ⟨⟨b0,b1,b2,b3⟩,_⟩:=d.out i H;have gx:=hIx H;have hI:=hIx g4;dsimp only at hI;clear H g4 hT hz g9 hd I;have gc:HdAt i.heap.size m t (.slice G (za2 a).length c4) (i.alloc (.cells #[.string m,.string t,.slice G (za2 a).length c4] 27)):=Qp _ _;have Q:=(Qg i.heap.size i).alloc (Qd _) (.cells #[.string m,.string t,.slice G (za2 a).length c4] 27);have hD:=hI.out.below Q;have hP:=gx.out.trans (Q.mono gg);have gH:=zaa Q V;have ⟨⟨x0,x1,x2,x3⟩,_,_,_,_⟩:=d.out _ hP;obtain⟨B4,h9⟩:∃B4:Nat,(w2.alloc (.cells #[.int .i64 K,.int .i64 N] 114)).heap.size=B4:=⟨_,rfl⟩
      rw[h9]at hD;have g1:i.heap.size<(i.alloc (.cells #[.string m,.string t,.slice G (za2 a).length c4] 27)).heap.size:=by simp
      have gp:B4<=(i.alloc (.cells #[.string m,.string t,.slice G (za2 a).length c4] 27)).heap.size:=by
       rw[<-h9,Qr,Qr];omega
      have hW:w.heap.size+1<=B4:=by rw[<-h9,Qr];omega
      go_upto_if 44 with fail
      clear hI Q b0 b1 b2 b3 V h9;generalize i.alloc (.cells #[.string m,.string t,.slice G (za2 a).length c4] 27)=W5 at *;have hi:=hIx gc;have hE:=hIx hD;have Y:=hIx hP;clear gc hD hP
      go_cut [7]from 44 to 54 (λs7 wx=>s7=.pointer (some ⟨i.heap.size,0,none⟩)/\∃A c,HdAt i.heap.size m t (.slice A k.fs.length c) wx/\Sl wx wx.heap.size 2 A k.fs.length (k.fs.flatMap zaL)/\Below (w.heap.size+1) J wx)
      case first=>
       by_cases l:K=1
       ·have hn:k.fs=za2 a:=by rw[hk.out,Qi l,QI]
        have ga:Hid (HdAt i.heap.size m t (.slice G k.fs.length c4) W5/\Sl W5 W5.heap.size 2 G k.fs.length (k.fs.flatMap zaL)/\Below (w.heap.size+1) J W5):=by
         rw[hn];exact⟨hi.out,OwnV.sl hE.out,Y.out⟩
        subst l;clear hn;go_wp2;go_meet;exact⟨rfl,G,c4,ga.out⟩
       ·have hn:Hid (k.fs=za2 a++[clB b.size]):=by unfold Hid;rw[hk.out,Qe l]
        have hq:(K != 1)=true:=Q6.2 l;have gl:Hid (∀W,Below W5.heap.size W5 W->Calls prog 58 #[.int .i64 (b.size:Int)] W λe w'=>e=.returned (.string (bs (Lib.decDigits b.size)))/\Below W.heap.size W w'):=λW h=>hG.out W (Y.out.trans (h.mono (Qn o Y.out.size)))
        have ⟨h0,h1,h2⟩:=hi.out.cells;have hx:Hid ((Value.slice G (za2 a).length c4).ownBlock≠some i.heap.size):=zbA hE.out hi.out (by decide);have gA:Hid (clB b.size=(ByteArray.mk #[67,111,110,116,101,110,116,45,76,101,110,103,116,104],bs (Lib.decDigits b.size))):=rfl;generalize bs (Lib.decDigits b.size)=DG at *;generalize clB b.size=CB at *;have gt:=hIx gA.out;generalize za2 a=z at *;have hC:z.length<=4194304:=by omega
        clear l hG;have gr:Hid (k.fs=z++[(ByteArray.mk #[67,111,110,116,101,110,116,45,76,101,110,103,116,104],DG)]):=by unfold Hid;rw[hn.out,gt.out]
        have gb:w.heap.size+1<=B4:=hW;go_wp2_with fail
        go_region_law (first|(refine zdW rfl (.tmp 46) (.tmp 52) rfl B4 (.slice G z.length c4) z rfl (by exact hN) (by exact hV) _ (ByteArray.mk #[67,111,110,116,101,110,116,45,76,101,110,103,116,104],DG) rfl w8.heap.size rfl 1 rfl hC ?_;intro v9 w9 B hF hj gC;obtain⟨A9,c9,rfl,_⟩:=B.form;have x:HdAt i.heap.size m t (.slice G z.length c4) w9:=(hj i.heap.size hB hx.out).trans hO;have gs:=x.free 2;have gn:=x.cells.2.2)|(refine zeW rfl (.tmp 46) (.tmp 52) rfl B4 (.slice G z.length c4) z rfl (by exact hN) (by exact hV) _ (ByteArray.mk #[67,111,110,116,101,110,116,45,76,101,110,103,116,104],DG) rfl w8.heap.size rfl 1 rfl hC ?_;intro v9 w9 B hF hj gC;obtain⟨A9,c9,rfl,_⟩:=B.form;have x:HdAt i.heap.size m t (.slice G z.length c4) w9:=(hj i.heap.size hB hx.out).trans hO;have gs:=x.free 2;have gn:=x.cells.2.2)|(go_simp;go_at_call 58;(with_reducible refine(gl.out _ ?_).mono ?_);(first|exact Qg _ _|exact(Qg _ _).drew);rintro e w8 ⟨rfl,q⟩;have j:Below W5.heap.size W5 w8:=(by first|exact q|exact undrew q);have gw:=zaa j h2;have hN:=hE.out.below j;have hV:B4<=w8.heap.size:=Qn gp j.size;have hO:HdAt i.heap.size m t (.slice G z.length c4) w8:=(j.block _ g1).trans hi.out;have hB:i.heap.size<w8.heap.size:=Qv g1 j.size;have gd:=Y.out.trans (j.mono (Qn o Y.out.size))))
        all_goals
         have hv:(z++[(ByteArray.mk #[67,111,110,116,101,110,116,45,76,101,110,103,116,104],DG)]).length=z.length+1:=by rw[Qa];rfl
         have hH:=gr.out;have X:k.fs.length=z.length+1:=by rw[hH];exact hv
         rw[<-hH,X]at B
         have hu:OwnV (w9.setCell ⟨i.heap.size,2,none⟩ (.slice A9 (z.length+1) c9)) B4 (.slice A9 (z.length+1) c9) k.fs:=by
          refine B.keep λg hg=>?_
          have gm:g≠i.heap.size:=λe=>zbA B x (by decide) (by rw[<-e];exact hg)
          rw[Ql _ _ _ _ gm]
         have hw:=x.put (.slice A9 (z.length+1) c9);have hA:=(gd.trans (hF.mono gb)).setCell (p:=⟨i.heap.size,2,none⟩) gg (.slice A9 (z.length+1) c9);have HN:=hIx (And.intro hw (And.intro (OwnV.sl hu) hA));clear hw hu hA B hF hj x hN hO gd q j h0 h1 h2 gw x0 x1 x2 x3 hv hH;go_wp2;go_meet;exact⟨rfl,A9,c9,by rw[X];exact HN.out.1,by rw[X]at *;exact HN.out.2.1,HN.out.2.2⟩
      case rest=>
       obtain⟨rfl,A6,c6,gj,gh,g3⟩:=hcut;have ⟨h0,h1,h2⟩:=gj.cells;have gu:=hIx (hR.out A6 c6 wc gh);have h8:=hIx g3;clear gj gh g3 x0 x1 x2 x3 hR hG hk hS;go_wp2_with fail;refine gu.out.mono ?_;rintro e w7 (⟨hc,rfl,Z⟩|⟨hc,rfl,Z⟩)
       ·have q:=h8.out.trans (Z.mono (Qn o h8.out.size))
        have ⟨⟨x0,x1,x2,x3⟩,F,_⟩:=d.out w7 q;have hQ:=hIx F;have g7:=gv.out hc;have U:Hid (fwdE ⟨m,t,a⟩ b.data.toList=0):=by unfold Hid;rw[hy.out,hc]
        have gy:Hid (bs (zaT k)++b=bs (zaT k++b.data.toList)):=by unfold Hid;rw[<-zou,zdZ]
        have gI:(bs (zaT k)).size<=31154:=by rw[zaj];exact g7
        generalize bs (zaT k)=P at *;have y1:∀W,(Op.stringOp .add P b).run prog W=.ok (.string (P++b)) W:=λW=>Xd W P b (by omega)
        clear Z q F hc g7 h0 h1 h2;go_wp2;exact Qj (v:=.tuple #[.string (P++b),.int .i64 0]) (by simp[results,results36,go_sem]) rfl (ge.out _ _ U.out gy.out hQ.out)
       ·have q:=h8.out.trans (Z.mono (Qn o h8.out.size))
        have ⟨_,F,_⟩:=d.out w7 q;have hQ:=hIx F;have q0:(zak k != 0)=true:=Q6.2 hc;have U:Hid (fwdE ⟨m,t,a⟩ b.data.toList=zak k/\zak k≠0):=⟨hy.out,hc⟩
        generalize zak k=C at *;clear Z q F hc h0 h1 h2;go_wp2;exact Qj (v:=.tuple #[.string (.mk #[]),.int .i64 C]) (by simp[results,results36,go_sem]) rfl (u.out _ _ U.out.1 U.out.2 hQ.out)
theorem ze0{h:zbh}(m:zak h=0)(r:List UInt8):∃i,i+4=(zaT h).length/\zcl (zaT h++r) i:=by
 obtain⟨b,hb,d,c⟩:=zkc (ziA m);have o:endL.length=4:=rfl;have a:(zaT h).length=b.length+4:=by rw[hb,Qa];rfl
 refine⟨b.length,a.symm,?_,?_⟩
 ·unfold Lib.occAt
  rw[Ze,hb,QH,ZH];exact⟨r,rfl⟩
 ·intro j p
  cases k:Lib.occAt (zaT h++r) endL j with
  |false=>rfl
  |true=>
   have h1:=zga k (n:=b.length+4) (by omega);rw[<-a,XJ]at h1;unfold Lib.occAt at h1;rw[Ze]at h1;obtain⟨x,g⟩:=h1;have e:(zaT h).take j++endL++x=b++endL:=by rw[QH,g,Zm,hb]
   have f:x≠[]:=by
    intro l;subst l;have:=Zt List.length g;rw[QF,Qa,QR]at this;omega
   have:=zlo f b e;rw[d,c]at this;cases this
theorem zsW{h:zbh}(c:zak h=0)(a:(zaT h).length<=4096)(r:List UInt8):∃i,i+4=(zaT h).length/\zlp (zaT h++r) 4096 i:=by
 obtain⟨i,d,b⟩:=ze0 c r;exact⟨i,d,b,by omega,by rw[Qa];omega⟩
theorem zvo{h:zbh}(c:zak h=0)(a:(zaT h).length<=4096){t more b:List UInt8}(hb:zch (zaz h) (t++more) 4096=.inr (b,t.length)):
 oneR (zaT h++t++more) 4096 4096=.ok (⟨h,b⟩,(zaT h++t).length):=by
 obtain⟨i,e,d⟩:=zsW c a (t++more);rw[QH,zr5 (by decide) d,e,XJ,ZH,zjm c a];dsimp only;rw[hb];dsimp only;rw[Qa]
theorem zkR{a:List zao}{x:ByteArray}(h:x∈zcT):Lib.containsS (zbE a) x=true:=(Lib.containsS_iff _ _).2 (QN.2 (.inl h))
theorem zmx(g d:List zao)(a:ByteArray)(j:bs (zav a.data.toList)∈zcT)(i:∀f∈d,f∈za2 g\/(znR a f=false)):getL d a=[]:=by
 unfold getL;rw[List.map_eq_nil_iff,List.filter_eq_nil_iff];intro f e b
 rcases i f e with h|h
 ·have c:=(ZB.1 h).2
  unfold zfM at c;unfold znR at b;rw[Zk]at b;have:lowN f=bs (zav a.data.toList):=by unfold lowN;rw[b]
  rw[this,zkR j]at c;cases c
 ·rw[h]at b;cases b
theorem zv2:bs (zav clen.data.toList)∈zcT:=by
 show clen∈zcT
 unfold zcT;simp[clen]
theorem zw6:bs (zav tenc.data.toList)∈zcT:=by
 show tenc∈zcT
 unfold zcT;simp[tenc]
theorem zjL(a:List zao):getL (za2 a) tenc=[]:=zmx a _ _ zw6 λ_ b=>.inl b
theorem zj7(a:List zao):getL (za2 a) clen=[]:=zmx a _ _ zv2 λ_ b=>.inl b
theorem zif(a b:List zao)(c:ByteArray):getL (a++b) c=getL a c++getL b c:=by unfold getL;rw[ZM,QU]
theorem zyJ(n:Nat):getL [clB n] tenc=[]:=by rfl
theorem zyd(n:Nat):getL [clB n] clen=[bs (Lib.decDigits n)]:=by rfl
theorem zrX(h:zbh)(n:Nat):(fwdH h n).fs=za2 h.fs/\(zaz h).1=1\/(fwdH h n).fs=za2 h.fs++[clB n]/\(zaz h).1≠1:=by
 unfold fwdH
 by_cases k:(zaz h).1=1
 ·exact .inl ⟨by rw[Qi k,QI],k⟩
 ·exact .inr ⟨by rw[Qe k],k⟩
theorem zry(h:zbh)(n:Nat)(a:n<=4096):zaz (fwdH h n)=if (zaz h).1=1 then (1,0,0)else (2,(n:Int),0):=by
 rcases zrX h n with ⟨e,k⟩|⟨e,k⟩
 ·rw[Qi k]
  unfold zaz;rw[e,zj7,zjL]
  rfl
 ·rw[Qe k]
  unfold zaz;rw[e,zif,zif,zj7,zjL,zyd,zyJ];show ofL [bs (Lib.decDigits n)] []=_
  rw[zm5,zae,zye n (by omega)];dsimp only;have:([bs (Lib.decDigits n)].any λy=>!(y.toList==(bs (Lib.decDigits n)).toList))=false:=by simp
  rw[this]
  rfl
structure zzB(h:zbh)(b:List UInt8):Prop where
 check:zak h=0
 err:(zaz h).2.2=0
 body:(zaz h).1=1->b=[]
 len:b.length<=4096
 out:zak (fwdH h b.length)=0
theorem zoX{h:zbh}{b:List UInt8}(a:fwdE h b=0):zzB h b:=by
 unfold fwdE at a
 by_cases h1:zak h=0
 ·rw[Qe (λx=>x h1)]at a
  by_cases h2:(zaz h).2.2=0
  ·rw[Qe (λx=>x h2)]at a
   by_cases c:(zaz h).1=1/\b≠[]
   ·rw[Qi c]at a;cases a
   ·rw[Qe c]at a
    by_cases d:4096<b.length
    ·rw[Qi d]at a;cases a
    ·rw[Qe d]at a
     exact⟨h1,h2,λk=>by
      cases b with
      |nil=>rfl
      |cons x r=>exact absurd ⟨k,List.cons_ne_nil _ _⟩ c,by omega,a⟩
  ·rw[Qi h2]at a;exact absurd a h2
 ·rw[Qi h1]at a;exact absurd a h1
theorem zyq{h:zbh}{b more:List UInt8}(a:zzB h b)(hl:(zaT (fwdH h b.length)).length<=4096):
 oneR (zaT (fwdH h b.length)++b++more) 4096 4096=.ok (⟨fwdH h b.length,b⟩,(zaT (fwdH h b.length)++b).length):=by
 refine zvo a.out hl ?_;rw[zry h b.length a.len];have hb:=a.len
 by_cases k:(zaz h).1=1
 ·rw[Qi k,a.body k]
  rfl
 ·rw[Qe k,zhk,Qe (by omega),Qe (by rw[Qa];omega),Q9,XJ]
theorem znH(v:ByteArray):(zaw v).length<=v.size+1:=by
 unfold zaw;rw[Qh];have:=zdR 44 v.data.toList;have e:v.data.toList.length=v.size:=by simp
 omega
theorem zuM(b:List zao)(a:ByteArray):((getL b a).flatMap zaw).length<=zjv b:=by
 induction b with
 |nil=>exact Qm _
 |cons f b ih=>
  rw[zeL];unfold getL at ih ⊢;rw[List.filter_cons]
  split
  ·rw[QX,QM,Qa]
   have:=znH f.2;omega
  ·omega
theorem zj6{a:List zao}(c:a.length<=1048577)(hb:zjv a<=1048576):zgN a:=by
 refine⟨by omega,λf b=>?_,?_⟩
 ·have:=zmj f b
  omega
 ·unfold zbE
  rw[Qa];have:=zuM a zhS;show 8+_<=_
  omega
structure OutP where
 q:ReqV
 st:Int
 who:Int
 sc:Int
 mt:List Int
 err:Int
def emB:ByteArray:=ByteArray.mk #[]
def errO(e:Int):OutP:=⟨⟨⟨emB,emB,[]⟩,[]⟩,0,0,0,[],e⟩
def reqO(q:ReqV)(S:RunS):OutP:=⟨q,S.st,S.who,S.sc,S.mt,0⟩
noncomputable def outJ(r:zd4)(a most:Nat)(q:ReqV):OutP:=
 if (runG r q.h.m q.h.t (bs q.b) q.h.fs a most).1≠0\/fwdE q.h q.b≠0 then errO 400 else reqO q (runG r q.h.m q.h.t (bs q.b) q.h.fs a most).2
def zeq(e:Int):Int:=if e=5 then 431 else if e=6 then 413 else 400
def allJ(F:ReqV->OutP)(H B:Int):Nat->List UInt8->List OutP
 |0,_=>[]
 |n+1,l=>match oneR l H B with
  |.error e=>if e=7 then []else [errO (zeq e)]
  |.ok (q,k)=>F q::if (F q).err=0 then allJ F H B n (l.drop k)else []
def fwdT(q:ReqV):List UInt8:=zaT (fwdH q.h q.b.length)++q.b
def zce(o:OutP):Bool:=o.err==0&&o.st==0
def upO(o:OutP):List UInt8:=if zce o=true then (if fwdE o.q.h o.q.b=0 then fwdT o.q else [])else []
def upJ(l:List OutP):List UInt8:=l.flatMap upO
theorem zqN{l:List UInt8}{i j:Nat}(h1:zcl l i)(h2:zcl l j):i=j:=by
 have:=(zfd h1).symm.trans (zfd h2);omega
theorem zv3{q:ReqV}(k:fwdE q.h q.b=0)(more:List UInt8):
 (∃p,oneR (fwdT q++more) 4096 4096=.ok (p,(fwdT q).length))\/oneR (fwdT q++more) 4096 4096=.error 5:=by
 have c:=zoX k
 by_cases hl:(zaT (fwdH q.h q.b.length)).length<=4096
 ·exact .inl ⟨_,zyq c hl⟩
 ·right
  obtain⟨i,n,g⟩:=ze0 c.out (q.b++more);have f:((fwdT q++more).length:Int)>=4096:=by unfold fwdT;simp only[Qa];omega
  unfold oneR
  have m:Lib.index (zep (fwdT q++more) 4096) endL<0:=by
   refine Int.not_le.1 λh=>?_
   obtain⟨j,l⟩:∃j:Nat,Lib.index (zep (fwdT q++more) 4096) endL=(j:Int):=⟨_,(Z5 h).symm⟩
   have e:=(zdO (by decide)).1 l;have d:=e.fits;have a:=e.first;unfold fwdT at a;rw[QH]at a;have:=zqN a g;omega
  rw[Qi m,Qi (by omega)]
theorem zo5{q:ReqV}(a:fwdE q.h q.b=0):fwdT q≠[]:=λh=>by
 obtain⟨i,c,_⟩:=ze0 (zoX a).out [];have:=Zt List.length h;unfold fwdT at this;rw[Qa,QR]at this;omega
theorem zy1(r:zd4)(a most:Nat)(q:ReqV)(h:(outJ r a most q).err=0):(outJ r a most q).q=q/\fwdE q.h q.b=0:=by
 unfold outJ at h ⊢
 by_cases c:(runG r q.h.m q.h.t (bs q.b) q.h.fs a most).1≠0\/fwdE q.h q.b≠0
 ·rw[Qi c]at h;cases h
 ·rw[Qe c]
  exact⟨rfl,by omega⟩
theorem zxe{F:ReqV->OutP}(d:∀q,(F q).err=0->(F q).q=q/\fwdE q.h q.b=0){H B:Int}:∀(n:Nat) (l:List UInt8),∀o∈allJ F H B n l,zce o=true->fwdE o.q.h o.q.b=0:=by
 intro n
 induction n with
 |zero=>intro l o a;cases a
 |succ n ih=>
  intro l o a c;unfold allJ at a
  split at a
  ·rename_i e _
   split at a
   ·cases a
   ·rw[QE.1 a]at c
    unfold zce errO zeq at c;dsimp only at c
    split at c
    ·cases c
    ·split at c <;> cases c
  ·rename_i q k _
   rcases QJ.1 a with rfl|a
   ·have f:(F q).err=0:=by
     unfold zce at c;rw[QW,Zk]at c;exact c.1
    obtain⟨h1,h2⟩:=d q f;rw[h1];exact h2
   ·split at a
    ·exact ih _ o a c
    ·cases a
theorem zp3(o:OutP)(l:List OutP):upJ (o::l)=upO o++upJ l:=by unfold upJ;rw[QM]
theorem zvV(l:List OutP)(o:OutP):upJ (l++[o])=upJ l++upO o:=by unfold upJ;rw[Q4,QM,XE,QI]
theorem zp7{o:OutP}(h:zce o=true)(a:fwdE o.q.h o.q.b=0):upO o=fwdT o.q:=by unfold upO;rw[Qi h,Qi a]
theorem zlR{o:OutP}(h:zce o=false):upO o=[]:=by unfold upO;rw[Qe (by rw[h];decide)]
structure UpLeft(l:List UInt8)(n:Nat):Prop where
 out:∃ps:List ReqV,ps.length=n/\(∀q∈ps,fwdE q.h q.b=0)/\l=ps.flatMap fwdT
theorem UpLeft.zero{n:Nat}(h:UpLeft [] n):n=0:=by
 obtain⟨a,rfl,h2,b⟩:=h.out;cases a with
 |nil=>rfl
 |cons q a=>
  rw[QM]at b;exact absurd (List.append_eq_nil_iff.1 b.symm).1 (zo5 (h2 q (by simp)))
theorem UpLeft.step{l:List UInt8}{n:Nat}(h:UpLeft l n)(hl:l≠[]):oneR l 4096 4096=.error 5\/∃p k,oneR l 4096 4096=.ok (p,k)/\1<=k/\k<=l.length/\1<=n/\UpLeft (l.drop k) (n-1):=by
 obtain⟨a,rfl,h2,rfl⟩:=h.out;cases a with
 |nil=>exact absurd rfl hl
 |cons q a=>
  rw[QM];have c:=h2 q (by simp)
  rcases zv3 c (a.flatMap fwdT)with ⟨p,b⟩|b
  ·refine .inr ⟨p,_,b,?_,by rw[Qa];omega,by rw[Qo];omega,⟨a,rfl,λx d=>h2 x (by simp[d]),ZH⟩⟩
   have:=zo5 c;exact Nat.pos_of_ne_zero λh=>this (QA h)
  ·exact .inl b
theorem zyU:∀(l:List OutP),(∀o∈l,zce o=true->fwdE o.q.h o.q.b=0)->UpLeft (upJ l) (l.countP zce):=by
 intro l
 induction l with
 |nil=>intro _;exact⟨[],rfl,λq a=>(by cases a),rfl⟩
 |cons o l ih=>
  intro h;obtain⟨d,h1,h2,f⟩:=(ih λx g=>h x (by simp[g])).out;rw[zp3];cases c:zce o with
  |false=>rw[zlR c,List.countP_cons_of_neg (by rw[c];decide)];exact⟨d,h1,h2,by rw[<-f];rfl⟩
  |true=>
   have e:=h o (by simp) c;rw[zp7 c e,List.countP_cons_of_pos c]
   exact⟨o.q::d,by rw[Qo,h1],λq a=>by
    rcases QJ.1 a with rfl|a
    ·exact e
    ·exact h2 q a,by rw[QM,f]⟩
structure OutM where
 p:OutP
 A:Option Addr
 c:Nat
 Am:Option Addr
 cm:Nat
def zel(x:OutM):List Value:=[.string x.p.q.h.m,.string x.p.q.h.t,.slice x.A x.p.q.h.fs.length x.c,.string (bs x.p.q.b),.int .i64 x.p.st,.int .i64 x.p.who,.int .i64 x.p.sc,.slice x.Am x.p.mt.length x.cm,.int .i64 x.p.err]
def rowO:RowT OutM where
 e:=62
 t:=63
 size:=9
 bytes:=128
 z:=.agg #[.string ByteArray.empty,.string ByteArray.empty,.slice none 0 0,.string ByteArray.empty,.int .i64 0,.int .i64 0,.int .i64 0,.slice none 0 0,.int .i64 0]
 cells:=zel
 hsz _:=rfl
 hpos:=by decide
 under:=underlying63
 info:=by kernel_rfl
 hz:=rfl
 one x u hu:=by simp only[zel,QJ,ZR,X0]at hu;rcases hu with rfl|rfl|rfl|rfl|rfl|rfl|rfl|rfl|rfl <;> rfl
 hbytes:=by decide
structure OutIn(w:World)(B:Nat)(x:OutM):Prop where
 f:Sl w B 2 x.A x.p.q.h.fs.length (x.p.q.h.fs.flatMap zaL)
 mt:Sl w B 1 x.Am x.p.mt.length (x.p.mt.map (Value.int .i64))
theorem OutIn.keep{w w':World}{B a:Nat}{x:OutM}(h:OutIn w B x)(hb:Below B w w')(b:B<=a):OutIn w' a x:=⟨(h.f.below hb).more b,(h.mt.below hb).more b⟩
structure OutOwn(w:World)(base:Nat)(x:OutM):Prop where
 f:OwnV w base (.slice x.A x.p.q.h.fs.length x.c) x.p.q.h.fs
 mt:OwnG rowZ w base (.slice x.Am x.p.mt.length x.cm) x.p.mt
theorem zwc{w:World}{base:Nat}{A:Option Addr}{c:Nat}{l:List Int}(h:OwnG rowZ w base (.slice A l.length c) l):Sl w w.heap.size 1 A l.length (l.map (Value.int .i64)):=by
 obtain⟨d,f,e,h1,_⟩:=zlj h;injection e with a g b
 rw[a];exact h1
theorem OutOwn.outIn{w:World}{base:Nat}{x:OutM}(h:OutOwn w base x):OutIn w w.heap.size x:=⟨OwnV.sl h.f,zwc h.mt⟩
theorem OutOwn.below{w w':World}{base:Nat}{x:OutM}(h:OutOwn w base x)(hb:Below w.heap.size w w'):OutOwn w' base x:=⟨h.f.below hb,h.mt.below hb⟩
theorem OutOwn.low{w:World}{base b:Nat}{x:OutM}(h:OutOwn w base x)(hb:b<=base):OutOwn w b x:=⟨h.f.low hb,h.mt.low hb⟩
theorem OutOwn.past{w w':World}{base c:Nat}{x:OutM}{v:Value}{l:List OutM}(h:OutOwn w base x)(b:OwnG rowO w c v l)(a:∀g,g<w.heap.size->v.ownBlock≠some g->w'.heap[g]? = w.heap[g]?):OutOwn w' base x:=
 ⟨zjK h.f b (by decide) a,zjK h.mt b (by decide) a⟩
def badM(e:Int):OutM:=⟨errO e,none,0,none,0⟩
theorem zw8(e:Int)(w:World)(base:Nat):OutOwn w base (badM e):=⟨OwnV.nil w base,OwnG.nil rowZ w base⟩
theorem zxA{w:World}{B n:Nat}{A:Option Addr}{l:List OutM}(h:Sl w B 9 A n (l.flatMap zel))(k:Nat)(c:k<l.length):
 ∃b a,A=some ⟨b,a,none⟩/\b<B/\∀j,j<9->∀v,(zel l[k])[j]? = some v->w.cell? ⟨b,a+k*9+j,none⟩=some v:=by
 have hl:=zaS zel 9 (λ_=>rfl) l;obtain⟨b,a,e,hb,g⟩:=h.src (by omega);refine⟨b,a,e,hb,λj f v d=>?_⟩;have h1:=zbM zel 9 (λ_=>rfl) l k j c f;have h2:k*9+j<(l.flatMap zel).length:=by omega
 rw[Zh,g (k*9+j) h2];rw[Qc h2]at h1;rw[h1,d]
theorem ztz{F:ReqV->OutP}{H B:Int}(b:0<=H)(c:0<=B):∀(n m:Nat) (l:List UInt8),l.length<n->l.length<m->allJ F H B n l=allJ F H B m l:=by
 intro n
 induction n with
 |zero=>intro m l h;omega
 |succ n ih=>
  intro m l e d;cases m with
  |zero=>omega
  |succ m=>
   unfold allJ
   split
   ·rfl
   ·rename_i q k a
    obtain⟨_,h1,h2⟩:=zoe b c a;rw[ih m (l.drop k) (by rw[QF];omega) (by rw[QF];omega)]
def allS(F:ReqV->OutP)(H B:Int)(l:List UInt8):List OutP:=allJ F H B (l.length+1) l
theorem zuY{F:ReqV->OutP}{H B e:Int}{l:List UInt8}(h:oneR l H B=.error e):allS F H B l=if e=7 then []else [errO (zeq e)]:=by
 unfold allS allJ;rw[h]
theorem zyz{F:ReqV->OutP}{H B:Int}{l:List UInt8}{q:ReqV}{k:Nat}(a:0<=H)(b:0<=B)(h:oneR l H B=.ok (q,k)):allS F H B l=F q::if (F q).err=0 then allS F H B (l.drop k)else []:=by
 obtain⟨_,h1,h2⟩:=zoe a b h;show allJ F H B (l.length+1) l=F q::if (F q).err=0 then allJ F H B ((l.drop k).length+1) (l.drop k)else []
 have e:allJ F H B (l.length+1) l=F q::if (F q).err=0 then allJ F H B l.length (l.drop k)else []:=by
  show (match oneR l H B with|.error e=>if e=7 then []else [errO (zeq e)]|.ok (q,k)=>F q::if (F q).err=0 then allJ F H B l.length (l.drop k)else [])=_
  rw[h]
 rw[e,ztz a b l.length ((l.drop k).length+1) (l.drop k) (by rw[QF];omega) (Xr _)]
