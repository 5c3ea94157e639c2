/- Lemmas for the last texts. -/
import Derived.Test.YtnnokglddolglaaGreatDoorM37
import Derived.Lib.ItoaMem
set_option maxHeartbeats 6400000
set_option maxRecDepth 100000
namespace Go.Proofs.YtnnokglddolglaaGreatDoor
open Go.RowKit Go.Proofs.Tryz
theorem ziz(x y:jE):bs x++bs y=bs (x++y):=by
 apply XT
 simp[bs]
def clN:ByteArray:=ByteArray.mk #[67,111,110,116,101,110,116,45,76,101,110,103,116,104]
def clB(n:Nat):zal:=(clN,bs (Lib.decDigits n))
def fwdH(h:za3)(n:Nat):za3:=⟨h.m,h.t,zbj h.fs++(if (zam h).1=1 then []else [clB n])⟩
def fwdE(h:za3)(b:jE):Int:=
 if zag h≠0 then zag h else if (zam h).2.2≠0 then (zam h).2.2 else if (zam h).1=1/\b≠[]then 4 else if 4096<b.length then 6 else zag (fwdH h b.length)
def zfN(h:za3)(b:jE)(w:World)(e:Ending)(w':World):Prop:=
 ((fwdE h b=0/\e=jC (.tuple #[.string (bs (zas (fwdH h b.length)++b)),jA 0]))\/(fwdE h b≠0/\e=jC (.tuple #[.string (.mk #[]),jA (fwdE h b)])))/\w w'
theorem zs7(n:Nat)(h:n<=9223372036854775807):(Lib.decDigits n).length<=21:=by
 have:=Lib.itoa_length_le (n:Int) (by omega) (by omega);rw[Lib.itoa_nonneg]at this;exact this
theorem zq7{a:List zal}{f:zal}(h:f∈zbj a):f∈a:=(ZE.1 h).1
theorem zxA{h:za3}{n:Nat}{f:zal}(a:f∈(fwdH h n).fs):f∈h.fs\/f=clB n:=by
 unfold fwdH at a
 rcases QO.1 a with h|h
 ·exact .inl (zq7 h)
 ·split at h
  ·cases h
  ·exact .inr (Qy.1 h)
theorem zyg(h:za3)(n:Nat):(fwdH h n).fs.length<=h.fs.length+1:=by
 unfold fwdH;rw[Qa];have:(zbj h.fs).length<=h.fs.length:=Zn _ _
 split <;> simp <;> omega
theorem ziK(h:za3)(b:ByteArray)(A:Option Addr)(c:Nat)(w:World)(hf:Sl w w.heap.size 2 A h.fs.length (h.fs.flatMap zaA))(hm:h.m.size<=maxLen)(ht:h.t.size<=maxLen)(h5:b.size<=maxLen)(h7:zgx h.fs)(hr:LibOk w)(hp:TabOk w):
 Calls prog 36 #[.agg #[.string h.m,.string h.t,.slice A h.fs.length c,.string b]] w (zfN h b.data.toList w):=by
 obtain⟨m,t,a⟩:=h;dsimp only at *
 have hZ:∀W,Below (w.heap.size+1) (w.alloc (.cells #[.string m,.string t,.slice A a.length c,.string b] 29)) W->(W.cell? w.heap.size=some (.string m)/\W.cell? ⟨w.heap.size,1,none⟩=some (.string t)/\W.cell? ⟨w.heap.size,2,none⟩=some (.slice A a.length c)/\W.cell? ⟨w.heap.size,3,none⟩=some (.string b))/\w W/\Sl W W.heap.size 2 A a.length (a.flatMap zaA)/\LibOk W/\TabOk W:=λW hb=>by
  obtain⟨h1,h2⟩:=zbs hb;exact⟨⟨h1 0,h1 1,h1 2,h1 3⟩,h2,(hf.below h2).more h2.size,hr.below h2,hp.below h2⟩
 have d:=hIx hZ;obtain⟨J,hh⟩:∃J,w.alloc (.cells #[.string m,.string t,.slice A a.length c,.string b] 29)=J:=⟨_,rfl⟩
 have o:w.heap.size+1<=J.heap.size:=by rw[<-hh];simp
 rw[hh]at d;have gy:=hIx hh;have hl:=h7.n;have g4:b.data.toList.length=b.size:=by simp
 have hs:∀f∈a,f.1.size<=maxLen/\f.2.size<=maxLen:=λf hf=>by have:=h7.sz f hf;unfold maxLen;omega
 have h6:Hid (Calls prog 56 #[.agg #[.string m,.string t,.slice A a.length c]] J λe w'=>e=jC (jA (zag ⟨m,t,a⟩))/\J w'):=zep ⟨m,t,a⟩ A c J (d.out J (Qj _ _)).2.2.1 hm ht hs (by show a.length<=_;omega);have h4:∀W,Below (w.heap.size+1) J W->Calls prog 43 #[.agg #[.string m,.string t,.slice A a.length c]] W (zkm (zam ⟨m,t,a⟩) W):=λW h=>zs1 m t A a.length c a W rfl (d.out W h).2.2.1 (λf hf=>(hs f hf).1) (λf hf=>(hs f hf).2) (by omega)
 have hL:(zam ⟨m,t,a⟩).2.2=4\/((zam ⟨m,t,a⟩).2.2=0/\((zam ⟨m,t,a⟩).1=1\/(zam ⟨m,t,a⟩).1=3\/((zam ⟨m,t,a⟩).1=2/\0<=(zam ⟨m,t,a⟩).2.1/\(zam ⟨m,t,a⟩).2.1<1000000000))):=zhD (getL a clen) (getL a tenc);have hz:Hid (∀W,Below (w.heap.size+1) J W->Calls prog 57 #[.agg #[.string m,.string t,.slice A a.length c]] W (zhJ ⟨m,t,a⟩ W)):=λW h=>ztu ⟨m,t,a⟩ A c W (d.out W h).2.2.1 h7 (d.out W h).2.2.2.1
 have ha:Hid (fwdE ⟨m,t,a⟩ b.data.toList=if zag ⟨m,t,a⟩≠0 then zag ⟨m,t,a⟩else if (zam ⟨m,t,a⟩).2.2≠0 then (zam ⟨m,t,a⟩).2.2 else if (zam ⟨m,t,a⟩).1=1/\b.data.toList≠[]then 4 else if 4096<b.size then 6 else zag (fwdH ⟨m,t,a⟩ b.size)):=by unfold Hid fwdE;rw[g4]
 have hk:Hid ((fwdH ⟨m,t,a⟩ b.size).fs=zbj a++(if (zam ⟨m,t,a⟩).1=1 then []else [clB b.size])):=rfl;have g1:=zyg ⟨m,t,a⟩ b.size
 have hS:Hid (∀f∈(fwdH ⟨m,t,a⟩ b.size).fs,f.1.size<=maxLen/\f.2.size<=maxLen):=λf hf=>by
  rcases zxA hf with h|rfl
  ·exact hs f h
  ·have:=zs7 b.size (by unfold maxLen at h5;omega)
   exact⟨by show 14<=maxLen;decide,by show (bs _).size<=maxLen;rw[zae];unfold maxLen;omega⟩
 have hR:Hid (∀(A:Option Addr) (c:Nat) (W:World),Sl W W.heap.size 2 A (fwdH ⟨m,t,a⟩ b.size).fs.length ((fwdH ⟨m,t,a⟩ b.size).fs.flatMap zaA)->Calls prog 42 #[.agg #[.string m,.string t,.slice A (fwdH ⟨m,t,a⟩ b.size).fs.length c]] W (zcH (fwdH ⟨m,t,a⟩ b.size) W)):=λA c W h=>
  zko (fwdH ⟨m,t,a⟩ b.size) A c W h hm ht hS.out (Ql g1 (by show a.length+1<=_;omega))
 have gu:Hid (zag (fwdH ⟨m,t,a⟩ b.size)=0->(zas (fwdH ⟨m,t,a⟩ b.size)).length<=31154):=λhc=>zgq _ (zdF hc)
 have u:Hid (∀(E:Int) W,fwdE ⟨m,t,a⟩ b.data.toList=E->E≠0->w W->zfN ⟨m,t,a⟩ b.data.toList w (jC (.tuple #[.string (.mk #[]),jA E])) W):=λE W h1 h2 h3=>⟨.inr ⟨by rw[h1];exact h2,by rw[h1]⟩,h3⟩
 have gd:Hid (∀(P:ByteArray) W,fwdE ⟨m,t,a⟩ b.data.toList=0->P=bs (zas (fwdH ⟨m,t,a⟩ b.size)++b.data.toList)->w W->zfN ⟨m,t,a⟩ b.data.toList w (jC (.tuple #[.string P,jA 0])) W):=λP W h1 h2 h3=>⟨.inl ⟨h1,by rw[h2,g4]⟩,h3⟩
 have hG:Hid (∀W,Below (w.heap.size+1) J W->Calls prog 58 #[jA (b.size:Int)] W λe w'=>e=jC (.string (bs (Lib.decDigits b.size)))/\W w'):=λW h=>zg4 b.size W (by unfold maxLen at h5;omega) (d.out W h).2.2.2.2
 generalize zam ⟨m,t,a⟩=r at *;obtain⟨K,N,E⟩:=r;dsimp only at hL ha hk;unfold zkm ofV at h4;dsimp only at h4;have hU:=hIx h4;have hY:=hIx hL;have gF:b.size<=9223372036854775807:=by unfold maxLen at h5;omega
 generalize gp:fwdH ⟨m,t,a⟩ b.size=k at *;have gD:(zbj a).length<=a.length:=Zn _ _;have ⟨⟨b0,b1,b2,b3⟩,_⟩:=d.out J (Qj _ _);clear hZ hh h4 hL hf hm ht h7 hr hp hs h5 g1 gp
 go_in
 go_upto_region 1 with fail
 rw[gy.out]
 by_cases D:zag ⟨m,t,a⟩=0
 rotate_left
 ·have q0:(zag ⟨m,t,a⟩ != 0)=true:=Q7.2 D
  have U:Hid (fwdE ⟨m,t,a⟩ b.data.toList=zag ⟨m,t,a⟩/\zag ⟨m,t,a⟩≠0):=⟨by rw[ha.out,Qg D],D⟩
  clear D;generalize zag ⟨m,t,a⟩=C at *;go_wp2_with (go_at_call 56;(with_reducible refine h6.out.mono ?_);rintro e w1 ⟨rfl,s⟩;have F:=(d.out _ (s.mono o)).2.1);exact Qi (v:=.tuple #[.string (.mk #[]),jA C]) (by simp[results,results36,go_sem]) rfl (u.out _ _ U.out.1 U.out.2 F)
 ·have S:Hid (fwdE ⟨m,t,a⟩ b.data.toList=if E≠0 then E else if K=1/\b.data.toList≠[]then 4 else if 4096<b.size then 6 else zag k):=by unfold Hid;rw[ha.out,Qe (λh=>h D)]
  rw[D]at h6;clear D ha;go_wp2_with fail;refine h6.out.mono ?_;rintro e w1 ⟨rfl,s⟩;have s:=s.mono o;have ge:w.heap.size+1<=w1.heap.size:=Ql o s.size;clear b0 b1 b2 b3;have ⟨⟨b0,b1,b2,b3⟩,_⟩:=d.out w1 s;go_wp2_with fail;refine(hU.out w1 s).mono ?_;rintro e w2 ⟨rfl,T⟩;have T:=s.trans (T.mono ge);have g7:w.heap.size+1<=w2.heap.size:=Ql o T.size;have gI:w.heap.size<w2.heap.size:=g7;have hJ:=T.alloc g7 (.cells #[jA K,jA N] 114);clear b0 b1 b2 b3;have ⟨⟨b0,b1,b2,b3⟩,gh,_⟩:=d.out w2 T;have I:=hIx (d.out _ hJ).2.1;have hd:=hIx hJ;have hX:=λW h=>(zbs (w:=w2) (W':=W) (cs:=#[jA K,jA N]) (t:=114) h).1 0
  have g8:=hIx hX;clear s T hJ gh ge hX h6 hU
  rcases hY.out with rfl|⟨rfl,hK⟩
  ·have U:Hid (fwdE ⟨m,t,a⟩ b.data.toList=4):=S.out
   clear S;go_wp2;exact Qi (v:=.tuple #[.string (.mk #[]),jA 4]) (by simp[results,results36,go_sem]) rfl (u.out 4 _ U.out (by decide) I.out)
  ·have O:Hid (fwdE ⟨m,t,a⟩ b.data.toList=if K=1/\b.data.toList≠[]then 4 else if 4096<b.size then 6 else zag k):=S.out
   clear S hY
   by_cases y:K=1/\b.data.toList≠[]
   ·have U:Hid (fwdE ⟨m,t,a⟩ b.data.toList=4):=by unfold Hid;rw[O.out,Qg y]
    obtain⟨rfl,gj⟩:=y;have he:b.toList.isEmpty=false:=by rw[QP];cases hq:b.data.toList with|nil=>exact absurd hq gj|cons=>rfl
    clear O gj hK;go_wp2;exact Qi (v:=.tuple #[.string (.mk #[]),jA 4]) (by simp[results,results36,go_sem]) rfl (u.out 4 _ U.out (by decide) I.out)
   ·have L:Hid (fwdE ⟨m,t,a⟩ b.data.toList=if 4096<b.size then 6 else zag k):=by unfold Hid;rw[O.out,Qe y]
    have g5:=hIx y;have HK:=hIx hK;clear O y hK;go_upto_region 7 with fail
    go_cut [25]from 26 to 33 (λgA wx=>gA=.bool false/\wx=w2.alloc (.cells #[jA K,jA N] 114))
    case first=>
     by_cases l:K=1
     ·have he:b.toList.isEmpty=true:=by
       rw[QP];cases hq:b.data.toList with
       |nil=>rfl
       |cons=>exact absurd ⟨l,by rw[hq];exact List.cons_ne_nil _ _⟩ g5.out
      have hq:(b.toList != [])=false:=by
       rw[bne,Bool.not_eq_false',Zo]
       simpa using he
      subst l;go_wp2;go_meet;exact⟨rfl,rfl⟩
     ·have hq:(K==1)=false:=Qb.2 l
      clear l;go_wp2;go_meet;exact⟨rfl,rfl⟩
    case rest=>
     obtain⟨rfl,rfl⟩:=hcut
     by_cases ho:4096<b.size
     ·have d2:decide ((4096:Int)<(b.size:Int))=true:=Qu (by omega)
      have U:Hid (fwdE ⟨m,t,a⟩ b.data.toList=6):=by unfold Hid;rw[L.out,Qg ho]
      clear ho L;go_wp2;exact Qi (v:=.tuple #[.string (.mk #[]),jA 6]) (by simp[results,results36,go_sem]) rfl (u.out 6 _ U.out (by decide) I.out)
     ·have d2:decide ((4096:Int)<(b.size:Int))=false:=Qq (by omega)
      have hy:Hid (fwdE ⟨m,t,a⟩ b.data.toList=zag k):=by unfold Hid;rw[L.out,Qe ho]
      have gE:b.size<=4096:=by omega
      clear L ho;have hT:=hIx (hz.out _ hd.out);go_wp2_with fail;refine hT.out.mono ?_;rintro e i ⟨G,c4,rfl,g3,H⟩;have V:=g8.out i (H.mono (by simp));have H:=hd.out.trans (H.mono (Ql o hd.out.size));have gf:w.heap.size<i.heap.size:=Ql o H.size;have gC:w2.heap.size<i.heap.size:=QQ i ⟨w2.heap.size,0,none⟩ V;clear b0 b1 b2 b3;have ⟨⟨b0,b1,b2,b3⟩,_⟩:=d.out i H;have gw:=hIx H;have hI:=hIx g3;dsimp only at hI;clear H g3 hT hz g8 hd I;have gb:HdAt i.heap.size m t (.slice G (zbj a).length c4) (i.alloc (.cells #[.string m,.string t,.slice G (zbj a).length c4] 27)):=Qt _ _;have Q:=(Qj i.heap.size i).alloc (Qc _) (.cells #[.string m,.string t,.slice G (zbj a).length c4] 27);have hD:=hI.out.below Q;have hP:=gw.out.trans (Q.mono gf);have gG:=zaa Q V;have ⟨⟨x0,x1,x2,x3⟩,_,_,_,_⟩:=d.out _ hP;obtain⟨B4,h9⟩:∃B4:Nat,(w2.alloc (.cells #[jA K,jA N] 114)).heap.size=B4:=⟨_,rfl⟩
      rw[h9]at hD;have g0:i.heap.size<(i.alloc (.cells #[.string m,.string t,.slice G (zbj a).length c4] 27)).heap.size:=by simp
      have gn:B4<=(i.alloc (.cells #[.string m,.string t,.slice G (zbj a).length c4] 27)).heap.size:=by
       rw[<-h9,Qp,Qp];omega
      have hW:w.heap.size+1<=B4:=by rw[<-h9,Qp];omega
      go_upto_if 44 with fail
      clear hI Q b0 b1 b2 b3 V h9;generalize i.alloc (.cells #[.string m,.string t,.slice G (zbj a).length c4] 27)=W5 at *;have hi:=hIx gb;have hE:=hIx hD;have Y:=hIx hP;clear gb hD hP
      go_cut [7]from 44 to 54 (λs7 wx=>s7=.pointer i.heap.size/\∃A c,HdAt i.heap.size m t (.slice A k.fs.length c) wx/\Sl wx wx.heap.size 2 A k.fs.length (k.fs.flatMap zaA)/\Below (w.heap.size+1) J wx)
      case first=>
       by_cases l:K=1
       ·have hn:k.fs=zbj a:=by rw[hk.out,Qg l,QE]
        have g9:Hid (HdAt i.heap.size m t (.slice G k.fs.length c4) W5/\Sl W5 W5.heap.size 2 G k.fs.length (k.fs.flatMap zaA)/\Below (w.heap.size+1) J W5):=by
         rw[hn];exact⟨hi.out,OwnV.sl hE.out,Y.out⟩
        subst l;clear hn;go_wp2;go_meet;exact⟨rfl,G,c4,g9.out⟩
       ·have hn:Hid (k.fs=zbj a++[clB b.size]):=by unfold Hid;rw[hk.out,Qe l]
        have hq:(K != 1)=true:=Q7.2 l;have gk:Hid (∀W,W5 W->Calls prog 58 #[jA (b.size:Int)] W λe w'=>e=jC (.string (bs (Lib.decDigits b.size)))/\W w'):=λW h=>hG.out W (Y.out.trans (h.mono (Ql o Y.out.size)))
        have ⟨h0,h1,h2⟩:=hi.out.cells;have hx:Hid ((Value.slice G (zbj a).length c4).ownBlock≠some i.heap.size):=zbx hE.out hi.out (by decide);have gz:Hid (clB b.size=(ByteArray.mk #[67,111,110,116,101,110,116,45,76,101,110,103,116,104],bs (Lib.decDigits b.size))):=rfl;generalize bs (Lib.decDigits b.size)=DG at *;generalize clB b.size=CB at *;have gs:=hIx gz.out;generalize zbj a=z at *;have hC:z.length<=4194304:=by omega
        clear l hG;have gq:Hid (k.fs=z++[(ByteArray.mk #[67,111,110,116,101,110,116,45,76,101,110,103,116,104],DG)]):=by unfold Hid;rw[hn.out,gs.out]
        have ga:w.heap.size+1<=B4:=hW;go_wp2_with fail
        go_region_law (first|(refine zdO rfl (.tmp 46) (.tmp 52) rfl B4 (.slice G z.length c4) z rfl (by exact hN) (by exact hV) _ (ByteArray.mk #[67,111,110,116,101,110,116,45,76,101,110,103,116,104],DG) rfl w8.heap.size rfl 1 rfl hC ?_;intro v9 w9 B hF hj gB;obtain⟨A9,c9,rfl,_⟩:=B.form;have x:HdAt i.heap.size m t (.slice G z.length c4) w9:=(hj i.heap.size hB hx.out).trans hO;have gr:=x.free 2;have gm:=x.cells.2.2)|(refine zeI rfl (.tmp 46) (.tmp 52) rfl B4 (.slice G z.length c4) z rfl (by exact hN) (by exact hV) _ (ByteArray.mk #[67,111,110,116,101,110,116,45,76,101,110,103,116,104],DG) rfl w8.heap.size rfl 1 rfl hC ?_;intro v9 w9 B hF hj gB;obtain⟨A9,c9,rfl,_⟩:=B.form;have x:HdAt i.heap.size m t (.slice G z.length c4) w9:=(hj i.heap.size hB hx.out).trans hO;have gr:=x.free 2;have gm:=x.cells.2.2)|(go_simp;go_at_call 58;(with_reducible refine(gk.out _ ?_).mono ?_);(first|exact Qj _ _|exact(Qj _ _).drew);rintro e w8 ⟨rfl,q⟩;have j:W5 w8:=(by first|exact q|exact undrew q);have gv:=zaa j h2;have hN:=hE.out.below j;have hV:B4<=w8.heap.size:=Ql gn j.size;have hO:HdAt i.heap.size m t (.slice G z.length c4) w8:=(j.block _ g0).trans hi.out;have hB:i.heap.size<w8.heap.size:=Qv g0 j.size;have gc:=Y.out.trans (j.mono (Ql o Y.out.size))))
        all_goals
         have hv:(z++[(ByteArray.mk #[67,111,110,116,101,110,116,45,76,101,110,103,116,104],DG)]).length=z.length+1:=by rw[Qa];rfl
         have hH:=gq.out;have X:k.fs.length=z.length+1:=by rw[hH];exact hv
         rw[<-hH,X]at B
         have hu:OwnV (w9.setCell ⟨i.heap.size,2,none⟩ (.slice A9 (z.length+1) c9)) B4 (.slice A9 (z.length+1) c9) k.fs:=by
          refine B.keep λg hg=>?_
          have gl:g≠i.heap.size:=λe=>zbx B x (by decide) (by rw[<-e];exact hg)
          rw[Qk _ _ _ _ gl]
         have hw:=x.put (.slice A9 (z.length+1) c9);have hA:=(gc.trans (hF.mono ga)).setCell (p:=⟨i.heap.size,2,none⟩) gf (.slice A9 (z.length+1) c9);have HN:=hIx (And.intro hw (And.intro (OwnV.sl hu) hA));clear hw hu hA B hF hj x hN hO gc q j h0 h1 h2 gv x0 x1 x2 x3 hv hH;go_wp2;go_meet;exact⟨rfl,A9,c9,by rw[X];exact HN.out.1,by rw[X]at *;exact HN.out.2.1,HN.out.2.2⟩
      case rest=>
       obtain⟨rfl,A6,c6,gi,gg,g2⟩:=hcut;have ⟨h0,h1,h2⟩:=gi.cells;have gt:=hIx (hR.out A6 c6 wc gg);have h8:=hIx g2;clear gi gg g2 x0 x1 x2 x3 hR hG hk hS;go_wp2_with fail;refine gt.out.mono ?_;rintro e w7 (⟨hc,rfl,Z⟩|⟨hc,rfl,Z⟩)
       ·have q:=h8.out.trans (Z.mono (Ql o h8.out.size))
        have ⟨⟨x0,x1,x2,x3⟩,F,_⟩:=d.out w7 q;have hQ:=hIx F;have g6:=gu.out hc;have U:Hid (fwdE ⟨m,t,a⟩ b.data.toList=0):=by unfold Hid;rw[hy.out,hc]
        have gx:Hid (bs (zas k)++b=bs (zas k++b.data.toList)):=by unfold Hid;rw[<-ziz,zc1]
        have gH:(bs (zas k)).size<=31154:=by rw[zae];exact g6
        generalize bs (zas k)=P at *;have y1:∀W,(Op.stringOp .add P b).run prog W=.ok (.string (P++b)) W:=λW=>Zv W P b (by omega)
        clear Z q F hc g6 h0 h1 h2;go_wp2;exact Qi (v:=.tuple #[.string (P++b),jA 0]) (by simp[results,results36,go_sem]) rfl (gd.out _ _ U.out gx.out hQ.out)
       ·have q:=h8.out.trans (Z.mono (Ql o h8.out.size))
        have ⟨_,F,_⟩:=d.out w7 q;have hQ:=hIx F;have q0:(zag k != 0)=true:=Q7.2 hc;have U:Hid (fwdE ⟨m,t,a⟩ b.data.toList=zag k/\zag k≠0):=⟨hy.out,hc⟩
        generalize zag k=C at *;clear Z q F hc h0 h1 h2;go_wp2;exact Qi (v:=.tuple #[.string (.mk #[]),jA C]) (by simp[results,results36,go_sem]) rfl (u.out _ _ U.out.1 U.out.2 hQ.out)
def zaQ(d:jE):jE:=hexF 6 d.length++13::10::(d++[13,10])
def zct(a:List jE):jE:=a.flatMap zaQ++[48,13,10,13,10]
def cutP:List Int->jE->List jE
 | [],s=>if s=[]then []else [s]
 |n::a,s=>if 0<n/\s≠[]then s.take (min n s.length).toNat::cutP a (s.drop (min n s.length).toNat)else cutP a s
theorem zec:∀(a:List Int) (s:jE),(cutP a s).flatten=s
 | [],s=>by rw[cutP];split <;> simp_all
 |n::a,s=>by
  rw[cutP]
  split
  ·rw[List.flatten_cons,zec a,Zp]
  ·exact zec a s
theorem ze6:∀(a:List Int) (s:jE),∀d∈cutP a s,d≠[]
 | [],s=>by
  rw[cutP]
  split
  ·intro d h;cases h
  ·intro d h;rw[Qy.1 h];assumption
 |n::a,s=>by
  rw[cutP]
  split
  ·rename_i h
   intro d b
   rcases QI.1 b with e|e
   ·intro c
    have h2:=Zi List.length (e.symm.trans c);have f:0<s.length:=ZJ.2 h.2;rw[QJ,QS]at h2;omega
   ·exact ze6 a _ d e
  ·exact ze6 a s
theorem zsj:∀(f n:Nat),n<16 ^ (f+1)->zdj (hexF f n)
 |0,n,h=>by
  have h:n<16:=by simpa using h
  intro b hb;rw[hexF,Qy]at hb;rw[hb,zcd n h];omega
 |f+1,n,h=>by
  intro b hb;rw[hexF]at hb
  split at hb
  ·rename_i h2
   rw[Qy]at hb;rw[hb,zcd n h2];omega
  ·rcases QO.1 hb with h1|h1
   ·refine zsj f (n / 16) ?_ b h1
    rw[Nat.div_lt_iff_lt_mul (by decide)];rw[Nat.pow_succ]at h;omega
   ·rw[Qy]at h1
    rw[h1,zcd _ (XJ _ (by decide))];omega
theorem zxO(n:Nat)(h:n<268435456):hexV (hexF 6 n)=(n:Int):=by unfold hexV;rw[zyC n h];rfl
theorem zp7(d r:jE)(room:Int)(b:d.length<268435456)(c:(d.length:Int)<=room):
 zaj (zaQ d++r) room=⟨d.length,0,(zaQ d).length,d⟩:=by
 have hl:=zic 6 d.length;have a:=zxO d.length b;have h:=zch (hexF 6 d.length) d r room (zsj 6 d.length (by simpa using b)) hl.1 hl.2 a.symm (by rw[a];exact c);have e:zaQ d++r=hexF 6 d.length++13::10::(d++13::10::r):=by unfold zaQ;simp
 rw[e,h,a];unfold zaQ;simp only[Qa,Qn,QS]
 congr 1
 omega
theorem zvE(r:jE)(room:Int)(c:0<=room):zaj ([48,13,10,13,10]++r) room=⟨0,0,5,[]⟩:=by
 have a:hexV [48]=0:=by decide
 have h:=zch [48] [] r room (by intro b hb;rw[Qy.1 hb];decide) (by decide) (by decide) (by rw[a];rfl) (by rw[a];exact c);rw[a]at h;exact h
theorem ziH:∀(a:List jE) (more:jE) (room:Int),(∀d∈a,d≠[]/\d.length<268435456)->(a.flatten.length:Int)<=room->zbe (zct a++more) room=.inr (a.flatten,(zct a).length)
 | [],more,room,_,b=>by
  have e:zct []++more=[48,13,10,13,10]++more:=rfl;have h:=zvE more room (by simpa using b);rw[e,ziL _ _ (by rw[h]) (by rw[h]),h]
  rfl
 |d::a,more,room,c,b=>by
  have g:=c d (by simp);have f:0<d.length:=ZJ.2 g.1;rw[List.flatten_cons,Qa]at b;have e:zct (d::a)++more=zaQ d++(zct a++more):=by unfold zct;rw[QH];simp
  have h:=zp7 d (zct a++more) room g.2 (by omega);rw[e,zd5 _ _ (by rw[h]) (by rw[h];dsimp only;omega),h];dsimp only;rw[ZL,ziH a more _ (λx j=>c x (by simp[j])) (by omega)];have i:(zct (d::a)).length=(zaQ d).length+(zct a).length:=by unfold zct;rw[QH,QG,Qa]
  rw[preT,i]
  rfl
theorem ze7(d:jE):(zaQ d).length<=d.length+11:=by
 have:=zic 6 d.length;unfold zaQ;simp only[Qa,Qn,QS];omega
theorem zm4{h:za3}(m:zag h=0)(r:jE):∃i,i+4=(zas h).length/\zc8 (zas h++r) i:=by
 obtain⟨b,hb,d,c⟩:=zjS (zik m);have o:endL.length=4:=rfl;have a:(zas h).length=b.length+4:=by rw[hb,Qa];rfl
 refine⟨b.length,a.symm,?_,?_⟩
 ·unfold Lib.occAt
  rw[Zd,hb,QG,ZL];exact⟨r,rfl⟩
 ·intro j p
  cases k:Lib.occAt (zas h++r) endL j with
  |false=>rfl
  |true=>
   have h1:=zfV k (n:=b.length+4) (by omega);rw[<-a,XO]at h1;unfold Lib.occAt at h1;rw[Zd]at h1;obtain⟨x,g⟩:=h1;have e:(zas h).take j++endL++x=b++endL:=by rw[QG,g,Zp,hb]
   have f:x≠[]:=by
    intro l;subst l;have:=Zi List.length g;rw[QM,Qa,QS]at this;omega
   have:=zkY f b e;rw[d,c]at this;cases this
theorem zsf{h:za3}(c:zag h=0)(a:(zas h).length<=4096)(r:jE):∃i,i+4=(zas h).length/\zkZ (zas h++r) 4096 i:=by
 obtain⟨i,d,b⟩:=zm4 c r;exact⟨i,d,b,by omega,by rw[Qa];omega⟩
theorem zuE{h:za3}(c:zag h=0)(a:(zas h).length<=4096){t more b:jE}(hb:zb8 (zam h) (t++more) 4096=.inr (b,t.length)):
 oneR (zas h++t++more) 4096 4096=.ok (⟨h,b⟩,(zas h++t).length):=by
 obtain⟨i,e,d⟩:=zsf c a (t++more);rw[QG,zro (by decide) d,e,XO,ZL,zi6 c a];dsimp only;rw[hb];dsimp only;rw[Qa]
def zdV(h:za3)(b:jE)(a:List Int):Option jE:=
 if (zam h).1=3 then some (zct (cutP a b))else if (zam h).1=1/\b=[]\/((zam h).1=2/\(zam h).2.1=(b.length:Int))then some b else none
def zcc(h:za3)(b:jE):Prop:=zag h=0/\(zam h).2.2=0/\(zas h).length<=4096/\b.length<=4096
theorem zpQ{h:za3}{b t more:jE}{c:List Int}(l:zcc h b)(a:zdV h b c=some t):
 oneR (zas h++t++more) 4096 4096=.ok (⟨h,b⟩,(zas h++t).length):=by
 obtain⟨o,m,hl,hb⟩:=l;refine zuE o hl ?_;unfold zdV at a;unfold zb8;rw[Qe (by rw[m];exact λh=>h rfl)]
 split at a
 ·rename_i f
  cases a;rw[Qe (by rw[f];decide),Qg f];have j:=zec c b
  have i:∀d∈cutP c b,d≠[]/\d.length<268435456:=λd k=>⟨ze6 _ _ d k,by
   obtain⟨x,y,e⟩:=List.append_of_mem k;have h:=Zi List.length j;rw[e]at h;simp only[List.flatten_append,List.flatten_cons,Qa]at h;omega⟩
  rw[ziH (cutP c b) more (max 4096 0) i (by rw[j];omega),j]
 ·rename_i f
  split at a
  ·rename_i g
   cases a
   rcases g with ⟨h1,rfl⟩|⟨h2,n⟩
   ·rw[Qg h1];rfl
   ·rw[Qe (by rw[h2];decide),Qe f,n,Qe (by omega),Qe (by rw[Qa];omega),Q8,XO]
  ·cases a
def znp(l:List zal):Nat:=(l.map λx=>x.1.size+x.2.size+2).sum
theorem zgl(x:zal)(l:List zal):znp (x::l)=(x.1.size+x.2.size+2)+znp l:=by unfold znp;rw[QW,List.sum_cons]
theorem zrX{l:List zal}:∀x∈l,x.1.size+x.2.size+2<=znp l:=by
 induction l with
 |nil=>intro x a;cases a
 |cons y l ih=>
  intro x a;have e:=zgl y l
  rcases QI.1 a with h|h
  ·subst h;omega
  ·have:=ih x h;omega
structure zzS(h:za3)(b:jE):Prop where
 check:zag h=0
 err:(zam h).2.2=0
 body:(zam h).1=1->b=[]
 len:b.length<=4096
 out:zag (fwdH h b.length)=0
theorem zwy{h:za3}{b:jE}(a:fwdE h b=0):zzS h b:=by
 unfold fwdE at a
 by_cases h1:zag h=0
 ·rw[Qe (λx=>x h1)]at a
  by_cases h2:(zam h).2.2=0
  ·rw[Qe (λx=>x h2)]at a
   by_cases c:(zam h).1=1/\b≠[]
   ·rw[Qg c]at a;cases a
   ·rw[Qe c]at a
    by_cases d:4096<b.length
    ·rw[Qg d]at a;cases a
    ·rw[Qe d]at a
     exact⟨h1,h2,λk=>by
      cases b with
      |nil=>rfl
      |cons x r=>exact absurd ⟨k,List.cons_ne_nil _ _⟩ c,by omega,a⟩
  ·rw[Qg h2]at a;exact absurd a h2
 ·rw[Qg h1]at a;exact absurd a h1
theorem zm6(v:ByteArray):(zau v).length<=v.size+1:=by
 unfold zau;rw[Qh];have:=zdK 44 v.data.toList;have e:v.data.toList.length=v.size:=by simp
 omega
theorem zt1(b:List zal)(a:ByteArray):((getL b a).flatMap zau).length<=znp b:=by
 induction b with
 |nil=>exact Qm _
 |cons f b ih=>
  rw[zgl];unfold getL at ih ⊢;rw[List.filter_cons]
  split
  ·rw[QW,QH,Qa]
   have:=zm6 f.2;omega
  ·omega
theorem zqd{a:List zal}(c:a.length<=1048577)(hb:znp a<=1048576):zgx a:=by
 refine⟨by omega,λf b=>?_,?_⟩
 ·have:=zrX f b
  omega
 ·unfold zbK
  rw[Qa];have:=zt1 a zhB;show 8+_<=_
  omega
structure OutP where
 q:ReqV
 st:Int
 who:Int
 sc:Int
 mt:List Int
 err:Int
def emB:ByteArray:=ByteArray.mk #[]
def errO(e:Int):OutP:=⟨⟨⟨emB,emB,[]⟩,[]⟩,0,0,0,[],e⟩
def reqO(q:ReqV)(S:RunS):OutP:=⟨q,S.st,S.who,S.sc,S.mt,0⟩
noncomputable def outJ(r:zeG)(a most:Nat)(q:ReqV):OutP:=
 if (runG r q.h.m q.h.t (bs q.b) q.h.fs a most).1≠0\/fwdE q.h q.b≠0 then errO 400 else reqO q (runG r q.h.m q.h.t (bs q.b) q.h.fs a most).2
def zeY(e:Int):Int:=if e=5 then 431 else if e=6 then 413 else 400
def allJ(F:ReqV->OutP)(H B:Int):Nat->jE->List OutP
 |0,_=>[]
 |n+1,l=>match oneR l H B with
  |.error e=>if e=7 then []else [errO (zeY e)]
  |.ok (q,k)=>F q::if (F q).err=0 then allJ F H B n (l.drop k)else []
def fwdT(q:ReqV):jE:=zas (fwdH q.h q.b.length)++q.b
def zjh(o:OutP):Bool:=o.err==0&&o.st==0
def upO(o:OutP):jE:=if zjh o=true then (if fwdE o.q.h o.q.b=0 then fwdT o.q else [])else []
def upJ(l:List OutP):jE:=l.flatMap upO
theorem zyp(r:zeG)(a most:Nat)(q:ReqV)(h:(outJ r a most q).err=0):(outJ r a most q).q=q/\fwdE q.h q.b=0:=by
 unfold outJ at h ⊢
 by_cases c:(runG r q.h.m q.h.t (bs q.b) q.h.fs a most).1≠0\/fwdE q.h q.b≠0
 ·rw[Qg c]at h;cases h
 ·rw[Qe c]
  exact⟨rfl,by omega⟩
theorem zwp(o:OutP)(l:List OutP):upJ (o::l)=upO o++upJ l:=by unfold upJ;rw[QH]
theorem zu5(l:List OutP)(o:OutP):upJ (l++[o])=upJ l++upO o:=by unfold upJ;rw[Q6,QH,Xa,QE]
theorem zwt{o:OutP}(h:zjh o=true)(a:fwdE o.q.h o.q.b=0):upO o=fwdT o.q:=by unfold upO;rw[Qg h,Qg a]
theorem zpA{o:OutP}(h:zjh o=false):upO o=[]:=by unfold upO;rw[Qe (by rw[h];decide)]
