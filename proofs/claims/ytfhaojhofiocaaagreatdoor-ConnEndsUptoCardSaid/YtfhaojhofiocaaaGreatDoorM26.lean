/- Lemmas for the last texts. -/
import Derived.Test.YtfhaojhofiocaaaGreatDoorM25
import Derived.Lib.ItoaMem
set_option maxHeartbeats 6400000
set_option maxRecDepth 100000
namespace Go.Proofs.YtfhaojhofiocaaaGreatDoor
open Go.RowKit Go.Proofs.Tryz
attribute [go_sem] results83
theorem zyp(x y:jE):bs x++bs y=bs (x++y):=by
 apply ByteArray.ext
 simp[bs]
def clN:ByteArray:=ByteArray.mk #[67,111,110,116,101,110,116,45,76,101,110,103,116,104]
def clB(n:Nat):zas:=(clN,bs (Lib.decDigits n))
def fwdH(h:zbR)(n:Nat):zbR:=⟨h.m,h.t,zbi h.fs++(if (zaK h).1=1 then []else [clB n])⟩
def fwdE(h:zbR)(b:jE):Int:=
 if zal h≠0 then zal h else if (zaK h).2.2≠0 then (zaK h).2.2 else if (zaK h).1=1/\b≠[]then 4 else if 4096<b.length then 6 else zal (fwdH h b.length)
def zho(h:zbR)(b:jE)(w:World)(e:Ending)(w':World):Prop:=
 ((fwdE h b=0/\e=jC (.tuple #[.string (bs (zdn (fwdH h b.length)++b)),jA 0]))\/(fwdE h b≠0/\e=jC (.tuple #[.string (.mk #[]),jA (fwdE h b)])))/\w w'
theorem zs3(n:Nat)(h:n<=9223372036854775807):(Lib.decDigits n).length<=21:=by
 have:=Lib.itoa_length_le (n:Int) (by omega) (by omega);rw[Lib.itoa_nonneg]at this;exact this
theorem zq0{a:List zas}{f:zas}(h:f∈zbi a):f∈a:=(Xg.1 h).1
theorem zxE{h:zbR}{n:Nat}{f:zas}(a:f∈(fwdH h n).fs):f∈h.fs\/f=clB n:=by
 unfold fwdH at a
 rcases QY.1 a with h|h
 ·exact .inl (zq0 h)
 ·split at h
  ·cases h
  ·exact .inr (QF.1 h)
theorem zyk(h:zbR)(n:Nat):(fwdH h n).fs.length<=h.fs.length+1:=by
 unfold fwdH;rw[Qb];have:(zbi h.fs).length<=h.fs.length:=Zh _ _
 split <;> simp <;> omega
theorem znS(h:zbR)(b:ByteArray)(A:Option Addr)(c:Nat)(w:World)(Z:Sl w w.heap.size 2 A h.fs.length (h.fs.flatMap zaJ))(hm:h.m.size<=maxLen)(ht:h.t.size<=maxLen)(h5:b.size<=maxLen)(h7:zgF h.fs)(hr:LibOk w)(hp:TabOk w):
 Calls prog 83 #[.agg #[.string h.m,.string h.t,.slice A h.fs.length c,.string b]] w (zho h b.data.toList w):=by
 obtain⟨m,t,a⟩:=h;dsimp only at *
 have hZ:∀W,Below (w.heap.size+1) (w.alloc (.cells #[.string m,.string t,.slice A a.length c,.string b] 53)) W->(W.cell? w.heap.size=some (.string m)/\W.cell? ⟨w.heap.size,1,none⟩=some (.string t)/\W.cell? ⟨w.heap.size,2,none⟩=some (.slice A a.length c)/\W.cell? ⟨w.heap.size,3,none⟩=some (.string b))/\w W/\Sl W W.heap.size 2 A a.length (a.flatMap zaJ)/\LibOk W/\TabOk W:=λW hb=>by
  obtain⟨h1,h2⟩:=zbB hb;exact⟨⟨h1 0,h1 1,h1 2,h1 3⟩,h2,(Z.below h2).more h2.size,hr.below h2,hp.below h2⟩
 have d:=hIx hZ;obtain⟨I,hh⟩:∃I,w.alloc (.cells #[.string m,.string t,.slice A a.length c,.string b] 53)=I:=⟨_,rfl⟩
 have o:w.heap.size+1<=I.heap.size:=by rw[<-hh];simp
 rw[hh]at d;have gz:=hIx hh;have hl:=h7.n;have g4:b.data.toList.length=b.size:=by simp
 have hs:∀f∈a,f.1.size<=maxLen/\f.2.size<=maxLen:=λf Z=>by have:=h7.sz f Z;unfold maxLen;omega
 have h6:Hid (Calls prog 79 #[.agg #[.string m,.string t,.slice A a.length c]] I λe w'=>e=jC (jA (zal ⟨m,t,a⟩))/\I w'):=zeA ⟨m,t,a⟩ A c I (d.out I (Qi _ _)).2.2.1 hm ht hs (by show a.length<=_;omega);have h4:∀W,Below (w.heap.size+1) I W->Calls prog 80 #[.agg #[.string m,.string t,.slice A a.length c]] W (zo8 (zaK ⟨m,t,a⟩) W):=λW h=>zwQ m t A a.length c a W rfl (d.out W h).2.2.1 (λf Z=>(hs f Z).1) (λf Z=>(hs f Z).2) (by omega)
 have hL:(zaK ⟨m,t,a⟩).2.2=4\/((zaK ⟨m,t,a⟩).2.2=0/\((zaK ⟨m,t,a⟩).1=1\/(zaK ⟨m,t,a⟩).1=3\/((zaK ⟨m,t,a⟩).1=2/\0<=(zaK ⟨m,t,a⟩).2.1/\(zaK ⟨m,t,a⟩).2.1<1000000000))):=zlK (getL a clen) (getL a tenc);have hz:Hid (∀W,Below (w.heap.size+1) I W->Calls prog 121 #[.agg #[.string m,.string t,.slice A a.length c]] W (zhL ⟨m,t,a⟩ W)):=λW h=>ztt ⟨m,t,a⟩ A c W (d.out W h).2.2.1 h7 (d.out W h).2.2.2.1
 have ha:Hid (fwdE ⟨m,t,a⟩ b.data.toList=if zal ⟨m,t,a⟩≠0 then zal ⟨m,t,a⟩else if (zaK ⟨m,t,a⟩).2.2≠0 then (zaK ⟨m,t,a⟩).2.2 else if (zaK ⟨m,t,a⟩).1=1/\b.data.toList≠[]then 4 else if 4096<b.size then 6 else zal (fwdH ⟨m,t,a⟩ b.size)):=by unfold Hid fwdE;rw[g4]
 have hk:Hid ((fwdH ⟨m,t,a⟩ b.size).fs=zbi a++(if (zaK ⟨m,t,a⟩).1=1 then []else [clB b.size])):=rfl;have g1:=zyk ⟨m,t,a⟩ b.size
 have hS:Hid (∀f∈(fwdH ⟨m,t,a⟩ b.size).fs,f.1.size<=maxLen/\f.2.size<=maxLen):=λf Z=>by
  rcases zxE Z with h|rfl
  ·exact hs f h
  ·have:=zs3 b.size (by unfold maxLen at h5;omega)
   exact⟨by show 14<=maxLen;decide,by show (bs _).size<=maxLen;rw[zah];unfold maxLen;omega⟩
 have hR:Hid (∀(A:Option Addr) (c:Nat) (W:World),Sl W W.heap.size 2 A (fwdH ⟨m,t,a⟩ b.size).fs.length ((fwdH ⟨m,t,a⟩ b.size).fs.flatMap zaJ)->Calls prog 122 #[.agg #[.string m,.string t,.slice A (fwdH ⟨m,t,a⟩ b.size).fs.length c]] W (zdO (fwdH ⟨m,t,a⟩ b.size) W)):=λA c W h=>
  zqV (fwdH ⟨m,t,a⟩ b.size) A c W h hm ht hS.out (Ql g1 (by show a.length+1<=_;omega))
 have gv:Hid (zal (fwdH ⟨m,t,a⟩ b.size)=0->(zdn (fwdH ⟨m,t,a⟩ b.size)).length<=31154):=λhc=>zjZ _ (zhV hc)
 have u:Hid (∀(E:Int) W,fwdE ⟨m,t,a⟩ b.data.toList=E->E≠0->w W->zho ⟨m,t,a⟩ b.data.toList w (jC (.tuple #[.string (.mk #[]),jA E])) W):=λE W h1 h2 h3=>⟨.inr ⟨by rw[h1];exact h2,by rw[h1]⟩,h3⟩
 have ge:Hid (∀(P:ByteArray) W,fwdE ⟨m,t,a⟩ b.data.toList=0->P=bs (zdn (fwdH ⟨m,t,a⟩ b.size)++b.data.toList)->w W->zho ⟨m,t,a⟩ b.data.toList w (jC (.tuple #[.string P,jA 0])) W):=λP W h1 h2 h3=>⟨.inl ⟨h1,by rw[h2,g4]⟩,h3⟩
 have hG:Hid (∀W,Below (w.heap.size+1) I W->Calls prog 31 #[jA (b.size:Int)] W λe w'=>e=jC (.string (bs (Lib.decDigits b.size)))/\W w'):=λW h=>zfI b.size W (by unfold maxLen at h5;omega) (d.out W h).2.2.2.2
 generalize zaK ⟨m,t,a⟩=r at *;obtain⟨K,N,E⟩:=r;dsimp only at hL ha hk;unfold zo8 ofV at h4;dsimp only at h4;have hU:=hIx h4;have hY:=hIx hL;have gG:b.size<=9223372036854775807:=by unfold maxLen at h5;omega
 generalize gq:fwdH ⟨m,t,a⟩ b.size=k at *;have gE:(zbi a).length<=a.length:=Zh _ _;have ⟨⟨b0,b1,b2,b3⟩,_⟩:=d.out I (Qi _ _);clear hZ hh h4 hL Z hm ht h7 hr hp hs h5 g1 gq
 go_in
 go_upto_region 1 with fail
 rw[gz.out]
 by_cases B:zal ⟨m,t,a⟩=0
 rotate_left
 ·have q0:(zal ⟨m,t,a⟩ != 0)=true:=Q6.2 B
  have T:Hid (fwdE ⟨m,t,a⟩ b.data.toList=zal ⟨m,t,a⟩/\zal ⟨m,t,a⟩≠0):=⟨by rw[ha.out,Qj B],B⟩
  clear B;generalize zal ⟨m,t,a⟩=C at *;go_wp2_with (go_at_call 79;(with_reducible refine h6.out.mono ?_);rintro e w1 ⟨rfl,s⟩;have D:=(d.out _ (s.mono o)).2.1);exact zad (u.out _ _ T.out.1 T.out.2 D)
 ·have Q:Hid (fwdE ⟨m,t,a⟩ b.data.toList=if E≠0 then E else if K=1/\b.data.toList≠[]then 4 else if 4096<b.size then 6 else zal k):=by unfold Hid;rw[ha.out,Qf (λh=>h B)]
  rw[B]at h6;clear B ha;go_wp2_with fail;refine h6.out.mono ?_;rintro e w1 ⟨rfl,s⟩;have s:=s.mono o;have gf:w.heap.size+1<=w1.heap.size:=Ql o s.size;clear b0 b1 b2 b3;have ⟨⟨b0,b1,b2,b3⟩,_⟩:=d.out w1 s;go_wp2_with fail;refine(hU.out w1 s).mono ?_;rintro e w2 ⟨rfl,S⟩;have S:=s.trans (S.mono gf);have g7:w.heap.size+1<=w2.heap.size:=Ql o S.size;have gJ:w.heap.size<w2.heap.size:=g7;have hJ:=S.alloc g7 (.cells #[jA K,jA N] 165);clear b0 b1 b2 b3;have ⟨⟨b0,b1,b2,b3⟩,gi,_⟩:=d.out w2 S;have H:=hIx (d.out _ hJ).2.1;have hd:=hIx hJ;have hX:=λW h=>(zbB (w:=w2) (W':=W) (cs:=#[jA K,jA N]) (t:=165) h).1 0
  have g8:=hIx hX;clear s S hJ gi gf hX h6 hU
  rcases hY.out with rfl|⟨rfl,hK⟩
  ·have T:Hid (fwdE ⟨m,t,a⟩ b.data.toList=4):=Q.out
   clear Q;go_wp2;exact zad (u.out 4 _ T.out (by decide) H.out)
  ·have L:Hid (fwdE ⟨m,t,a⟩ b.data.toList=if K=1/\b.data.toList≠[]then 4 else if 4096<b.size then 6 else zal k):=Q.out
   clear Q hY
   by_cases x:K=1/\b.data.toList≠[]
   ·have T:Hid (fwdE ⟨m,t,a⟩ b.data.toList=4):=by unfold Hid;rw[L.out,Qj x]
    obtain⟨rfl,gk⟩:=x;have he:b.toList.isEmpty=false:=by rw[QU];cases hq:b.data.toList with|nil=>exact absurd hq gk|cons=>rfl
    clear L gk hK;go_wp2;exact zad (u.out 4 _ T.out (by decide) H.out)
   ·have J:Hid (fwdE ⟨m,t,a⟩ b.data.toList=if 4096<b.size then 6 else zal k):=by unfold Hid;rw[L.out,Qf x]
    have g5:=hIx x;have HK:=hIx hK;clear L x hK;go_upto_region 7 with fail
    go_cut [25]from 26 to 33 (λgB wx=>gB=.bool false/\wx=w2.alloc (.cells #[jA K,jA N] 165))
    case first=>
     by_cases l:K=1
     ·have he:b.toList.isEmpty=true:=by
       rw[QU];cases hq:b.data.toList with
       |nil=>rfl
       |cons=>exact absurd ⟨l,by rw[hq];exact List.cons_ne_nil _ _⟩ g5.out
      have hq:(b.toList != [])=false:=by
       rw[bne,Bool.not_eq_false',Zn]
       simpa using he
      subst l;go_wp2;go_meet;exact⟨rfl,rfl⟩
     ·have hq:(K==1)=false:=Qc.2 l
      clear l;go_wp2;go_meet;exact⟨rfl,rfl⟩
    case rest=>
     obtain⟨rfl,rfl⟩:=hcut
     by_cases ho:4096<b.size
     ·have d2:decide ((4096:Int)<(b.size:Int))=true:=Qx (by omega)
      have T:Hid (fwdE ⟨m,t,a⟩ b.data.toList=6):=by unfold Hid;rw[J.out,Qj ho]
      clear ho J;go_wp2;exact zad (u.out 6 _ T.out (by decide) H.out)
     ·have d2:decide ((4096:Int)<(b.size:Int))=false:=Qt (by omega)
      have hy:Hid (fwdE ⟨m,t,a⟩ b.data.toList=zal k):=by unfold Hid;rw[J.out,Qf ho]
      have gF:b.size<=4096:=by omega
      clear J ho;have hT:=hIx (hz.out _ hd.out);go_wp2_with fail;refine hT.out.mono ?_;rintro e i ⟨F,c4,rfl,g3,G⟩;have U:=g8.out i (G.mono (by simp));have G:=hd.out.trans (G.mono (Ql o hd.out.size));have gg:w.heap.size<i.heap.size:=Ql o G.size;have gD:w2.heap.size<i.heap.size:=QT i ⟨w2.heap.size,0,none⟩ U;clear b0 b1 b2 b3;have ⟨⟨b0,b1,b2,b3⟩,_⟩:=d.out i G;have gx:=hIx G;have hI:=hIx g3;dsimp only at hI;clear G g3 hT hz g8 hd H;have gc:HdAt i.heap.size m t (.slice F (zbi a).length c4) (i.alloc (.cells #[.string m,.string t,.slice F (zbi a).length c4] 51)):=Qv _ _;have O:=(Qi i.heap.size i).alloc (Qd _) (.cells #[.string m,.string t,.slice F (zbi a).length c4] 51);have hD:=hI.out.below O;have hP:=gx.out.trans (O.mono gg);have gH:=zaa O U;have ⟨⟨x0,x1,x2,x3⟩,_,_,_,_⟩:=d.out _ hP;obtain⟨B4,h9⟩:∃B4:Nat,(w2.alloc (.cells #[jA K,jA N] 165)).heap.size=B4:=⟨_,rfl⟩
      rw[h9]at hD;have g0:i.heap.size<(i.alloc (.cells #[.string m,.string t,.slice F (zbi a).length c4] 51)).heap.size:=by simp
      have gp:B4<=(i.alloc (.cells #[.string m,.string t,.slice F (zbi a).length c4] 51)).heap.size:=by
       rw[<-h9,Qp,Qp];omega
      have hW:w.heap.size+1<=B4:=by rw[<-h9,Qp];omega
      go_upto_if 44 with fail
      clear hI O b0 b1 b2 b3 U h9;generalize i.alloc (.cells #[.string m,.string t,.slice F (zbi a).length c4] 51)=W5 at *;have hi:=hIx gc;have hE:=hIx hD;have X:=hIx hP;clear gc hD hP
      go_cut [7]from 44 to 54 (λs7 wx=>s7=.pointer i.heap.size/\∃A c,HdAt i.heap.size m t (.slice A k.fs.length c) wx/\Sl wx wx.heap.size 2 A k.fs.length (k.fs.flatMap zaJ)/\Below (w.heap.size+1) I wx)
      case first=>
       by_cases l:K=1
       ·have hn:k.fs=zbi a:=by rw[hk.out,Qj l,QO]
        have g9:Hid (HdAt i.heap.size m t (.slice F k.fs.length c4) W5/\Sl W5 W5.heap.size 2 F k.fs.length (k.fs.flatMap zaJ)/\Below (w.heap.size+1) I W5):=by
         rw[hn];exact⟨hi.out,OwnV.sl hE.out,X.out⟩
        subst l;clear hn;go_wp2;go_meet;exact⟨rfl,F,c4,g9.out⟩
       ·have hn:Hid (k.fs=zbi a++[clB b.size]):=by unfold Hid;rw[hk.out,Qf l]
        have hq:(K != 1)=true:=Q6.2 l;have gl:Hid (∀W,W5 W->Calls prog 31 #[jA (b.size:Int)] W λe w'=>e=jC (.string (bs (Lib.decDigits b.size)))/\W w'):=λW h=>hG.out W (X.out.trans (h.mono (Ql o X.out.size)))
        have ⟨h0,h1,h2⟩:=hi.out.cells;have hx:Hid ((Value.slice F (zbi a).length c4).ownBlock≠some i.heap.size):=zbl hE.out hi.out (by decide);have gA:Hid (clB b.size=(ByteArray.mk #[67,111,110,116,101,110,116,45,76,101,110,103,116,104],bs (Lib.decDigits b.size))):=rfl;generalize bs (Lib.decDigits b.size)=DG at *;generalize clB b.size=CB at *;have gt:=hIx gA.out;generalize zbi a=y at *;have hC:y.length<=4194304:=by omega
        clear l hG;have gr:Hid (k.fs=y++[(ByteArray.mk #[67,111,110,116,101,110,116,45,76,101,110,103,116,104],DG)]):=by unfold Hid;rw[hn.out,gt.out]
        have ga:w.heap.size+1<=B4:=hW;go_wp2_with fail
        go_region_law (first|(refine zdQ rfl (.tmp 46) (.tmp 52) rfl B4 (.slice F y.length c4) y rfl (by exact hN) (by exact hV) _ (ByteArray.mk #[67,111,110,116,101,110,116,45,76,101,110,103,116,104],DG) rfl w8.heap.size rfl 1 rfl hC ?_;intro v9 w9 z hF hj gC;obtain⟨A9,c9,rfl,_⟩:=z.form;have v:HdAt i.heap.size m t (.slice F y.length c4) w9:=(hj i.heap.size hB hx.out).trans hO;have gs:=v.free 2;have gn:=v.cells.2.2)|(refine zeU rfl (.tmp 46) (.tmp 52) rfl B4 (.slice F y.length c4) y rfl (by exact hN) (by exact hV) _ (ByteArray.mk #[67,111,110,116,101,110,116,45,76,101,110,103,116,104],DG) rfl w8.heap.size rfl 1 rfl hC ?_;intro v9 w9 z hF hj gC;obtain⟨A9,c9,rfl,_⟩:=z.form;have v:HdAt i.heap.size m t (.slice F y.length c4) w9:=(hj i.heap.size hB hx.out).trans hO;have gs:=v.free 2;have gn:=v.cells.2.2)|(go_simp;go_at_call 31;(with_reducible refine(gl.out _ ?_).mono ?_);(first|exact Qi _ _|exact(Qi _ _).drew);rintro e w8 ⟨rfl,q⟩;have j:W5 w8:=(by first|exact q|exact undrew q);have gw:=zaa j h2;have hN:=hE.out.below j;have hV:B4<=w8.heap.size:=Ql gp j.size;have hO:HdAt i.heap.size m t (.slice F y.length c4) w8:=(j.block _ g0).trans hi.out;have hB:i.heap.size<w8.heap.size:=Qw g0 j.size;have gd:=X.out.trans (j.mono (Ql o X.out.size))))
        all_goals
         have hv:(y++[(ByteArray.mk #[67,111,110,116,101,110,116,45,76,101,110,103,116,104],DG)]).length=y.length+1:=by rw[Qb];rfl
         have hH:=gr.out;have V:k.fs.length=y.length+1:=by rw[hH];exact hv
         rw[<-hH,V]at z
         have hu:OwnV (w9.setCell ⟨i.heap.size,2,none⟩ (.slice A9 (y.length+1) c9)) B4 (.slice A9 (y.length+1) c9) k.fs:=by
          refine z.keep λg hg=>?_
          have gm:g≠i.heap.size:=λe=>zbl z v (by decide) (by rw[<-e];exact hg)
          rw[Qm _ _ _ _ gm]
         have hw:=v.put (.slice A9 (y.length+1) c9);have hA:=(gd.trans (hF.mono ga)).setCell (p:=⟨i.heap.size,2,none⟩) gg (.slice A9 (y.length+1) c9);have HN:=hIx (And.intro hw (And.intro (OwnV.sl hu) hA));clear hw hu hA z hF hj v hN hO gd q j h0 h1 h2 gw x0 x1 x2 x3 hv hH;go_wp2;go_meet;exact⟨rfl,A9,c9,by rw[V];exact HN.out.1,by rw[V]at *;exact HN.out.2.1,HN.out.2.2⟩
      case rest=>
       obtain⟨rfl,A6,c6,gj,gh,g2⟩:=hcut;have ⟨h0,h1,h2⟩:=gj.cells;have gu:=hIx (hR.out A6 c6 wc gh);have h8:=hIx g2;clear gj gh g2 x0 x1 x2 x3 hR hG hk hS;go_wp2_with fail;refine gu.out.mono ?_;rintro e w7 (⟨hc,rfl,Y⟩|⟨hc,rfl,Y⟩)
       ·have q:=h8.out.trans (Y.mono (Ql o h8.out.size))
        have ⟨⟨x0,x1,x2,x3⟩,D,_⟩:=d.out w7 q;have hQ:=hIx D;have g6:=gv.out hc;have T:Hid (fwdE ⟨m,t,a⟩ b.data.toList=0):=by unfold Hid;rw[hy.out,hc]
        have gy:Hid (bs (zdn k)++b=bs (zdn k++b.data.toList)):=by unfold Hid;rw[<-zyp,zeT]
        have gI:(bs (zdn k)).size<=31154:=by rw[zah];exact g6
        generalize bs (zdn k)=P at *;have y1:∀W,(Op.stringOp .add P b).run prog W=.ok (.string (P++b)) W:=λW=>ZU W P b (by omega)
        clear Y q D hc g6 h0 h1 h2;go_wp2;exact zad (ge.out _ _ T.out gy.out hQ.out)
       ·have q:=h8.out.trans (Y.mono (Ql o h8.out.size))
        have ⟨_,D,_⟩:=d.out w7 q;have hQ:=hIx D;have q0:(zal k != 0)=true:=Q6.2 hc;have T:Hid (fwdE ⟨m,t,a⟩ b.data.toList=zal k/\zal k≠0):=⟨hy.out,hc⟩
        generalize zal k=C at *;clear Y q D hc h0 h1 h2;go_wp2;exact zad (u.out _ _ T.out.1 T.out.2 hQ.out)
def znd(l:List zas):Nat:=(l.map λx=>x.1.size+x.2.size+2).sum
theorem zgs(x:zas)(l:List zas):znd (x::l)=(x.1.size+x.2.size+2)+znd l:=by unfold znd;rw[Q8,List.sum_cons]
theorem zrP{l:List zas}:∀x∈l,x.1.size+x.2.size+2<=znd l:=by
 induction l with
 |nil=>intro x a;cases a
 |cons y l ih=>
  intro x a;have e:=zgs y l
  rcases QN.1 a with h|h
  ·subst h;omega
  ·have:=ih x h;omega
structure zz3(h:zbR)(b:jE):Prop where
 check:zal h=0
 err:(zaK h).2.2=0
 body:(zaK h).1=1->b=[]
 len:b.length<=4096
 out:zal (fwdH h b.length)=0
theorem zyT{h:zbR}{b:jE}(a:fwdE h b=0):zz3 h b:=by
 unfold fwdE at a
 by_cases h1:zal h=0
 ·rw[Qf (λx=>x h1)]at a
  by_cases h2:(zaK h).2.2=0
  ·rw[Qf (λx=>x h2)]at a
   by_cases c:(zaK h).1=1/\b≠[]
   ·rw[Qj c]at a;cases a
   ·rw[Qf c]at a
    by_cases d:4096<b.length
    ·rw[Qj d]at a;cases a
    ·rw[Qf d]at a
     exact⟨h1,h2,λk=>by
      cases b with
      |nil=>rfl
      |cons x r=>exact absurd ⟨k,List.cons_ne_nil _ _⟩ c,by omega,a⟩
  ·rw[Qj h2]at a;exact absurd a h2
 ·rw[Qj h1]at a;exact absurd a h1
theorem zmW(v:ByteArray):(zav v).length<=v.size+1:=by
 unfold zav;rw[Qk];have:=zdL 44 v.data.toList;have e:v.data.toList.length=v.size:=by simp
 omega
theorem zt6(b:List zas)(a:ByteArray):((getL b a).flatMap zav).length<=znd b:=by
 induction b with
 |nil=>exact Qn _
 |cons f b ih=>
  rw[zgs];unfold getL at ih ⊢;rw[List.filter_cons]
  split
  ·rw[Q8,QV,Qb]
   have:=zmW f.2;omega
  ·omega
theorem zpV{a:List zas}(c:a.length<=1048577)(hb:znd a<=1048576):zgF a:=by
 refine⟨by omega,λf b=>?_,?_⟩
 ·have:=zrP f b
  omega
 ·unfold zbL
  rw[Qb];have:=zt6 a zhG;show 8+_<=_
  omega
structure OutP where
 q:ReqV
 st:Int
 who:Int
 sc:Int
 mt:List Int
 err:Int
def emB:ByteArray:=ByteArray.mk #[]
def errO(e:Int):OutP:=⟨⟨⟨emB,emB,[]⟩,[]⟩,0,0,0,[],e⟩
def reqO(q:ReqV)(S:RunS):OutP:=⟨q,S.st,S.who,S.sc,S.mt,0⟩
noncomputable def outJ(r:zfy)(a most:Nat)(q:ReqV):OutP:=
 if (runG r q.h.m q.h.t (bs q.b) q.h.fs a most).1≠0\/fwdE q.h q.b≠0 then errO 400 else reqO q (runG r q.h.m q.h.t (bs q.b) q.h.fs a most).2
def zbs(e:Int):Int:=if e=5 then 431 else if e=6 then 413 else 400
def fwdT(q:ReqV):jE:=zdn (fwdH q.h q.b.length)++q.b
def zsi(o:OutP):Bool:=o.err==0&&o.st==0
def upO(o:OutP):jE:=if zsi o=true then (if fwdE o.q.h o.q.b=0 then fwdT o.q else [])else []
theorem zws{o:OutP}(h:zsi o=true)(a:fwdE o.q.h o.q.b=0):upO o=fwdT o.q:=by unfold upO;rw[Qj h,Qj a]
theorem zwr{o:OutP}(h:zsi o=false):upO o=[]:=by unfold upO;rw[Qf (by rw[h];decide)]
attribute [go_sem] results82
def R3'(w:World)(g:Nat)(a b:Int)(v:Value):Prop:=w.heap[g]? = some (.cells #[jA a,jA b,v] 24 (0,0))
def V4(w:World)(g:Nat)(a b c:Int)(v:Value):Prop:=w.heap[g]? = some (.cells #[jA a,jA b,jA c,v] 56 (0,0))
def putV(w:World)(g:Nat)(a b c:Int)(v:Value):World:=(((w.setCell g (jA a)).setCell ⟨g,1,none⟩ (jA b)).setCell ⟨g,2,none⟩ (jA c)).setCell ⟨g,3,none⟩ v
theorem zfO(w:World)(g:Nat)(a b c:Int)(v:Value):(((w.setCell g (jA a)).setCell ⟨g,1,none⟩ (jA b)).setCell ⟨g,2,none⟩ (jA c)).setCell ⟨g,3,none⟩ v=putV w g a b c v:=rfl
theorem V4.set{w:World}{g:Nat}{a b c:Int}{v:Value}(h:V4 w g a b c v)(x y z:Int)(u:Value):V4 (putV w g x y z u) g x y z u:=by
 have d:V4 (w.setCell g (jA x)) g x b c v:=QW w g 0 _ _ _ h;have h1:V4 ((w.setCell g (jA x)).setCell ⟨g,1,none⟩ (jA y)) g x y c v:=QW _ g 1 _ _ _ d;have h2:V4 (((w.setCell g (jA x)).setCell ⟨g,1,none⟩ (jA y)).setCell ⟨g,2,none⟩ (jA z)) g x y z v:=QW _ g 2 _ _ _ h1;exact QW _ g 3 _ _ _ h2
theorem V4.four{w:World}{g:Nat}{a b c:Int}{v:Value}(h:V4 w g a b c v):w.cell? g=some (jA a)/\w.cell? ⟨g,1,none⟩=some (jA b)/\w.cell? ⟨g,2,none⟩=some (jA c)/\w.cell? ⟨g,3,none⟩=some v:=
 ⟨Qo _ _ 0 _ _ _ h,Qo _ _ 1 _ _ _ h,Qo _ _ 2 _ _ _ h,Qo _ _ 3 _ _ _ h⟩
theorem V4.free{w:World}{g:Nat}{a b c:Int}{v:Value}(h:V4 w g a b c v)(j:Nat):w.frozen? ⟨g,j,none⟩=false:=Zc _ _ j _ _ h
theorem zsd(w:World)(g:Nat)(a b c:Int)(v:Value)(k:Nat)(h:k≠g):(putV w g a b c v).heap[k]? = w.heap[k]? := by
 unfold putV;rw[Qm _ _ _ _ h,Qm _ _ _ _ h,Qm _ _ _ _ h,Qm _ _ _ _ h]
theorem zgd{B:Nat}{e w:World}(h:Below B e w){g:Nat}(d:B<=g)(a b c:Int)(v:Value):Below B e (putV w g a b c v):=
 (((h.setCell (p:=⟨g,0,none⟩) d _).setCell (p:=⟨g,1,none⟩) d _).setCell (p:=⟨g,2,none⟩) d _).setCell (p:=⟨g,3,none⟩) d _
def zoY(c:Nat)(l:List RuM)(b:World)(v i:Value)(wr:World):Prop:=
 ∃a:List Nat,i=jA (a.length:Int)/\Built c l b a v wr
structure RunIn(a:RuArg)(m t b:ByteArray)(fs:List zas)(A:Option Addr)(cl most:Nat)(w:World):Prop where
 lies:RuLies w w.heap.size a
 bulk:zb9 a
 f:Sl w w.heap.size 2 A fs.length (fs.flatMap zaJ)
 fz:∀f∈fs,f.1.size<=maxLen/\f.2.size<=4194304
 fl:fs.length<=4194304
 tz:t.size<=4194304
 bz:b.size<=4194304
 mz:most<=1048576
 cz:cl<4294967296
 lib:LibOk w
 tab:TabOk w
theorem zyi(t:ByteArray)(a:List zas)(b:ByteArray)(most:Nat):(ofP t a b most).2.1.length<=most+20/\(ofP t a b most).2.2.length<=most:=by
 have h1:=zlq a b (most-(zcU (Lib.cut t.data.toList [63]).2.1).length);unfold ofP;dsimp only
 split
 ·exact⟨Qn _,Qn _⟩
 split
 ·exact⟨Qn _,Qn _⟩
 split
 ·exact⟨Qn _,Qn _⟩
 ·refine⟨?_,by dsimp only;omega⟩
  dsimp only;rw[Qb];omega
theorem zyy(a:RuArg)(m t b:ByteArray)(z:List zas)(A:Option Addr)(c cl most:Nat)(w:World)(h:RunIn a m t b z A cl most w):
 Calls prog 82 #[a.value,.agg #[.string m,.string t,.slice A z.length c,.string b],.int .u32 (cl:Int),jA (most:Int)] w (zhc (runG a.set m t b z cl most) w):=by
 obtain⟨Z,hw⟩:∃Z,(((w.alloc (.cells #[jA a.most,jA a.status,.slice a.A a.l.length a.c] 24)).alloc (.cells #[.string m,.string t,.slice A z.length c,.string b] 53)).alloc (.cells #[jA 0,jA 0,jA 0,jD 0 0] 56))=Z:=⟨_,rfl⟩
 have kw:Z.heap.size=w.heap.size+3:=by rw[<-hw];simp
 have h7:w Z:=by rw[<-hw];exact(WaL.alloc (by simp) _).alloc (by simp;omega) _
 have hR:R3' Z w.heap.size a.most a.status (.slice a.A a.l.length a.c):=by
  rw[<-hw];exact(Qs _ _ _ (by simp only[Qp];omega)).trans ((Qs _ _ _ (by simp only[Qp];omega)).trans (Qv w _))
 have hQ:Z.heap[w.heap.size+1]? = some (.cells #[.string m,.string t,.slice A z.length c,.string b] 53 (0,0)):=by
  rw[<-hw];exact(Qs _ _ _ (by simp only[Qp];omega)).trans (zbb _ _ _ (by simp only[Qp]))
 have hV:V4 Z (w.heap.size+1+1) 0 0 0 (jD 0 0):=by
  rw[<-hw];exact zbb _ _ _ (by simp only[Qp])
 have gw:∀W,Z W->R3' W w.heap.size a.most a.status (.slice a.A a.l.length a.c)/\W.heap[w.heap.size+1]? = some (.cells #[.string m,.string t,.slice A z.length c,.string b] 53 (0,0))/\V4 W (w.heap.size+1+1) 0 0 0 (jD 0 0)/\w W:=λW hb=>
  ⟨(hb.block _ (by omega)).trans hR,(hb.block _ (by omega)).trans hQ,(hb.block _ (by omega)).trans hV,h7.trans (hb.mono h7.size)⟩
 have hX:=hIx gw;have gB:Hid (Calls prog 16 #[.agg #[jA a.most,jA a.status,.slice a.A a.l.length a.c]] Z (zbc (za1 argC a.set) Z)):=ziL a Z (h.lies.keep h7 h7.size) h.bulk (h.lib.below h7)
 have hN:Hid (∀W,Z W->Calls prog 119 #[.agg #[.string m,.string t,.slice A z.length c,.string b],.int .u32 (cl:Int),jA (most:Int)] W (zk8 t z b most W)):=λW hb=>by
  have hI:=h7.trans (hb.mono h7.size);exact zyA m t b z A c cl most W ((h.f.below hI).more hI.size) h.fz h.fl h.tz h.bz (by have:=h.mz;omega) (h.lib.below hI)
 have HG:Hid (runG a.set m t b z cl most=if za1 argC a.set≠0 then (za1 argC a.set,run0)else if (ofP t z b most).1≠0 then ((ofP t z b most).1,run0)else (0,runS (λsc x=>isR x m t b z cl sc (ofP t z b most).2.1 (ofP t z b most).2.2) a.set)):=rfl;have gk:=zyi t z b most;generalize runG a.set m t b z cl most=G at *;unfold zk8 at hN;obtain⟨O,hO⟩:∃O,ofP t z b most=O:=⟨_,rfl⟩
 rw[hO]at hN HG gk;obtain⟨C,hC⟩:∃C,za1 argC a.set=C:=⟨_,rfl⟩
 rw[hC]at gB HG;have HH:=hIx h;have HC:=hIx hC;have kz:=hIx hw
 have gr:Hid (∀(E:Int) W,G=(E,run0)->w W->zhc G w (jC (.tuple #[.agg #[jA 0,jA 0,jA 0,jD 0 0],jA E])) W):=λE W h1 h2=>by
  rw[h1];exact⟨jD 0 0,rfl,OwnG.nil _ _ _,h2⟩
 have kG:w.heap.size<Z.heap.size:=by omega
 have kE:w.heap.size+1<Z.heap.size:=by omega
 have kD:w.heap.size+1+1<Z.heap.size:=by omega
 have r0:=zak hR;unfold RuArg.value;clear hw hR hQ hV gw hO hC h kw h7
 go_in
 go_upto_region 1 with fail
 rw[kz.out];go_wp2_with (go_at_call 16;apply Hid.out);refine WhM gB ?_;rintro e w1 ⟨rfl,ht⟩;have ⟨ke,gN,gi,g3⟩:=hX.out w1 ht;have v0:=zak gi;have f0:∀j,w1.frozen? ⟨w.heap.size+1+1,j,none⟩=false:=λj=>Zc _ _ j _ _ gi
 have P:=f0 0;have h6:=f0 1;have h8:=f0 2;have V:=f0 3;clear r0 f0
 by_cases hc:C=0
 rotate_left
 ·have n0:(C != 0)=true:=Q6.2 hc
  have HP:=hIx (gr.out C);have k4:G=(C,run0):=by rw[HG.out,Qj hc]
  have gn:=hIx k4;clear hc k4 ke gN HG hN;go_wp2_with fail;rw[zfO];have ⟨t0,t1,t2,t3⟩:=(gi.set 0 0 0 (jD 0 0)).four;have HF:=hIx (HP.out _ gn.out (zgd g3 (show w.heap.size<=w.heap.size+1+1 by omega) 0 0 0 (jD 0 0)));exact zad HF.out
 ·subst hc
  have gp:Hid (G=if O.1≠0 then (O.1,run0)else (0,runS (λsc x=>isR x m t b z cl sc O.2.1 O.2.2) a.set)):=by unfold Hid;rw[HG.out,Qf (by decide)]
  have HO:=hIx (hN.out w1 ht);have q0:=zak gN;have gW:=ht.size;clear HG gB hN ke gN gi v0 P h6 h8 V;go_wp2_with (go_at_call 119;apply Hid.out);refine WhM HO ?_;rintro e w2 ⟨vl,vc,rfl,hS,g5,g0⟩;have hH:=ht.trans (g0.mono gW);have ⟨gR,gJ,hU,ge⟩:=hX.out w2 hH;obtain⟨Al,kb,rfl,_⟩:=hS.form;obtain⟨Ac,k9,rfl,_⟩:=g5.form
  by_cases T:O.1=0
  rotate_left
  ·have n0:(O.1 != 0)=true:=Q6.2 T
   have HP:=hIx (gr.out O.1);have gn:Hid (G=(O.1,run0)):=by unfold Hid;rw[gp.out,Qj T]
   have ⟨v0,Y,v2,v3⟩:=hU.four;have P:=hU.free;have t0:=(hU.set 0 0 0 (jD 0 0)).four;have HF:=hIx (HP.out _ gn.out (zgd ge (show w.heap.size<=w.heap.size+1+1 by omega) 0 0 0 (jD 0 0)));obtain⟨E,hE⟩:∃E,O.1=E:=⟨_,rfl⟩
   rw[hE]at n0 HF ⊢;clear T gn HP gR gJ gp hS g5 hU q0 hE;generalize O.2.1.length=n1;generalize O.2.2.length=n2;have Q:=hIx t0;clear t0;go_wp2_with fail;rw[zfO];exact QD (by simp[results,results82,go_sem,Q.out.1,Q.out.2.1,Q.out.2.2.1,Q.out.2.2.2]) rfl HF.out
  ·have gO:Hid (G=(0,runS (λsc x=>isR x m t b z cl sc O.2.1 O.2.2) a.set)):=by unfold Hid;rw[gp.out,Qf (λh=>h T)]
   rw[T];obtain⟨O1,L1,L2⟩:=O;dsimp only at gO gk hS g5 ⊢;have q0:=zak gJ;have r2:w2.cell? ⟨w.heap.size,2,none⟩=some (.slice a.A a.l.length a.c):=Qo _ _ 2 _ _ _ gR;obtain⟨q,hq⟩:∃q:RunQ,q=⟨m,t,b,z,A,c,cl,L1,Al,kb,L2,Ac,k9⟩:=⟨_,rfl⟩
   obtain⟨w3,hT⟩:∃w3,w2.alloc (.cells #[.string m,.string t,.slice A z.length c,.string b,.int .u32 (cl:Int),.slice Al L1.length kb,.slice Ac L2.length k9,jA 0,jA 0,jA 0,jD 0 0,jA 0,.bool false] 211)=w3:=⟨_,rfl⟩
   have k7:UBox w2.heap.size q.uc run0 (jD 0 0) w3:=by rw[<-hT,hq];exact Qv w2 _
   have hy:w2 w3:=by rw[<-hT];exact WaL
   have kJ:w3.heap.size=w2.heap.size+1:=by rw[<-hT];simp
   have gV:=hH.trans (hy.mono hH.size);have kC:=hH.size;have r3:=zaa hy r2;have kk:=hIx hT;have gU:=hIx k7;have kS:=hIx gV;have he:=hIx hy;have ks:=hIx hH;have gI:=hIx hS;have gC:=hIx g5;have ha:=hIx ge;have kF:w.heap.size<=w1.heap.size:=g3.size;have kB:=g0.size;have kR:a.l.length<=1048576:=HH.out.bulk.len;have gE:=hIx hq;clear hT k7 gV hy hS g5 gR gJ hU gp T ge g0 hH ht g3 hq;go_upto_region 8 with fail
   rw[kk.out];clear q0 r2
   have gy:Hid (∀W,w3 W->∀k (hk:k<a.l.length),∃b ga,a.A=some ⟨b,ga,none⟩/\b<W.heap.size/\∀j,j<9->∀v,(zax a.l[k])[j]? = some v->W.cell? ⟨b,ga+k*9+j,none⟩=some v):=λW hb k hk=>by
    have hI:=ha.out.trans ((he.out.trans (hb.mono he.out.size)).mono ha.out.size);obtain⟨b,ga,e,h1,h2⟩:=zsy (HH.out.lies.sl.below hI) k hk;exact⟨b,ga,e,Qw h1 hI.size,h2⟩
   obtain⟨AA,gP⟩:∃AA,a.A=AA:=⟨_,rfl⟩
   rw[gP]at r3 gy;rw[gP];clear gP;go_wp2
   go_loopw [15,45] (λv i wr=>zoY w3.heap.size a.l w3 v i wr) (λ_ i _=>a.l.length-(intOf i).toNat)
   case atStart=>exact⟨[],rfl,Built.nil⟩
   case round=>
    obtain⟨F,rfl,U⟩:=hrel;have k1:=U.below.size;obtain⟨Av,cv,rfl,_⟩:=U.own.form
    by_cases gX:F.length<a.l.length
    ·have d1:decide ((F.length:Int)<(a.l.length:Int))=true:=by simp;omega
     have i7:IntKind.i64.wrap ((F.length:Int)+1)=(F.length:Int)+1:=Qz _ (by omega);obtain⟨b',ga,rfl,kH,H⟩:=gy.out wr U.below F.length gX;have g9:=hIx (λ(v':Value) (kj ku:World) (g:Nat)=>U.push (v':=v') (w2:=kj) (w3:=ku) (g:=g) gX k1);generalize a.l[F.length]=X at *;have c0:=H 0 (by decide) _ rfl;have c1:=H 1 (by decide) _ rfl;have c2:=H 2 (by decide) _ rfl;have c3:=H 3 (by decide) _ rfl;have c4:=H 4 (by decide) _ rfl;have c5:=H 5 (by decide) _ rfl;have c6:=H 6 (by decide) _ rfl;have c7:=H 7 (by decide) _ rfl;have c8:=H 8 (by decide) _ rfl;rw[XH]at c0;obtain⟨B,gj⟩:∃B,wr.alloc (.cells #[jA X.r.id,jA X.r.phase,.slice X.vA X.r.vars.length X.vc,.slice X.pA X.r.pipe.length X.pc,.bool X.r.no,jA X.r.op,.string X.r.arg,.slice X.aA X.r.acts.length X.ac,.bool X.r.chain] 68)=B:=⟨_,rfl⟩
     have g4:wr B:=by rw[<-gj];exact WaL
     have gD:R9 B wr.heap.size (jA X.r.id) (jA X.r.phase) (.slice X.vA X.r.vars.length X.vc) (.slice X.pA X.r.pipe.length X.pc) (.bool X.r.no) (jA X.r.op) (.string X.r.arg) (.slice X.aA X.r.acts.length X.ac) (.bool X.r.chain):=by rw[<-gj];exact Qv wr _
     have k0:=gD.cells9;have kl:wr.heap.size<B.heap.size:=gD.lt;have HB:=hIx U;have ko:=hIx gj;have kO:=hIx g4;have kP:=U.len;have kd:Hid (OwnG rowP B w3.heap.size (.slice Av F.length cv) F):=U.own.below g4;have gK:B (B.alloc (.cells #[jA X.r.id,jA X.r.phase,.slice X.vA X.r.vars.length X.vc,.slice X.pA X.r.pipe.length X.pc,.bool X.r.no,jA X.r.op,.string X.r.arg,.slice X.aA X.r.acts.length X.ac,.bool X.r.chain,.int .u32 0,.int .i32 0,.int .u32 0,.nilFunc] 226)):=by exact WaL
     have k6:RBox B.heap.size (zhY X) 0 0 .nilFunc (B.alloc (.cells #[jA X.r.id,jA X.r.phase,.slice X.vA X.r.vars.length X.vc,.slice X.pA X.r.pipe.length X.pc,.bool X.r.no,jA X.r.op,.string X.r.arg,.slice X.aA X.r.acts.length X.ac,.bool X.r.chain,.int .u32 0,.int .i32 0,.int .u32 0,.nilFunc] 226)):=by exact Qv B _
     have hL:wr (B.alloc (.cells #[jA X.r.id,jA X.r.phase,.slice X.vA X.r.vars.length X.vc,.slice X.pA X.r.pipe.length X.pc,.bool X.r.no,jA X.r.op,.string X.r.arg,.slice X.aA X.r.acts.length X.ac,.bool X.r.chain,.int .u32 0,.int .i32 0,.int .u32 0,.nilFunc] 226)):=g4.trans (gK.mono g4.size);have kh:Hid (OwnG rowP (B.alloc (.cells #[jA X.r.id,jA X.r.phase,.slice X.vA X.r.vars.length X.vc,.slice X.pA X.r.pipe.length X.pc,.bool X.r.no,jA X.r.op,.string X.r.arg,.slice X.aA X.r.acts.length X.ac,.bool X.r.chain,.int .u32 0,.int .i32 0,.int .u32 0,.nilFunc] 226)) w3.heap.size (.slice Av F.length cv) F):=kd.out.below gK;have ky:=hIx k6;have ka:=hIx hL;have k8:w3.heap.size<=(B.alloc (.cells #[jA X.r.id,jA X.r.phase,.slice X.vA X.r.vars.length X.vc,.slice X.pA X.r.pipe.length X.pc,.bool X.r.no,jA X.r.op,.string X.r.arg,.slice X.aA X.r.acts.length X.ac,.bool X.r.chain,.int .u32 0,.int .i32 0,.int .u32 0,.nilFunc] 226)).heap.size:=Ql k1 hL.size;have kg:wr.heap.size<=B.heap.size:=QZ kl
     have y:Hid (∀Y hd,OwnG rowP hd w3.heap.size Y (F++[B.heap.size])->Below w3.heap.size (B.alloc (.cells #[jA X.r.id,jA X.r.phase,.slice X.vA X.r.vars.length X.vc,.slice X.pA X.r.pipe.length X.pc,.bool X.r.no,jA X.r.op,.string X.r.arg,.slice X.aA X.r.acts.length X.ac,.bool X.r.chain,.int .u32 0,.int .i32 0,.int .u32 0,.nilFunc] 226)) hd->(∀k,k<(B.alloc (.cells #[jA X.r.id,jA X.r.phase,.slice X.vA X.r.vars.length X.vc,.slice X.pA X.r.pipe.length X.pc,.bool X.r.no,jA X.r.op,.string X.r.arg,.slice X.aA X.r.acts.length X.ac,.bool X.r.chain,.int .u32 0,.int .i32 0,.int .u32 0,.nilFunc] 226)).heap.size->(Value.slice Av F.length cv).ownBlock≠some k->hd.heap[k]? = (B.alloc (.cells #[jA X.r.id,jA X.r.phase,.slice X.vA X.r.vars.length X.vc,.slice X.pA X.r.pipe.length X.pc,.bool X.r.no,jA X.r.op,.string X.r.arg,.slice X.aA X.r.acts.length X.ac,.bool X.r.chain,.int .u32 0,.int .i32 0,.int .u32 0,.nilFunc] 226)).heap[k]?)->zoY w3.heap.size a.l w3 Y (jA ((F.length:Int)+1)) hd):=λY hd h1 h2 h3=>
      ⟨F++[B.heap.size],by rw[Qb];rfl,g9.out Y (B.alloc (.cells #[jA X.r.id,jA X.r.phase,.slice X.vA X.r.vars.length X.vc,.slice X.pA X.r.pipe.length X.pc,.bool X.r.no,jA X.r.op,.string X.r.arg,.slice X.aA X.r.acts.length X.ac,.bool X.r.chain,.int .u32 0,.int .i32 0,.int .u32 0,.nilFunc] 226)) hd B.heap.size kg ka.out ky.out h1 h2 h3⟩
     clear gj g4 gK k6 hL gD U H HB g9 kd;go_upto_region 12 with fail
     rw[ko.out];go_wp2_with (at_builtin;refine zaL rowP rfl (.tmp 49) (.tmp 53) rfl w3.heap.size (.slice Av F.length cv) F rfl (by exact kh.out) (by exact k8) _ B.heap.size rfl (B.heap.size+1) (by simp) 1 rfl (by omega) ?_;intro Y hd T ht g2 kn;have HR:=hIx (y.out Y hd T ht g2);clear T ht g2 kn);exact⟨HR.out,by dsimp only[intOf];omega⟩
    ·have hn:F.length=a.l.length:=by have:=U.len;omega
     have d1:decide ((F.length:Int)<(a.l.length:Int))=false:=by simp;omega
     have gG:w2.heap.size<w3.heap.size:=gU.out.lt;have hF:w wr:=ha.out.trans ((he.out.trans (U.below.mono he.out.size)).mono ha.out.size);have gq:w.heap.size<=w2.heap.size:=ha.out.size;obtain⟨n,u⟩:∃n,F.zip a.l=n:=⟨_,rfl⟩
     have hD:∀p∈n,w3.heap.size<=p.1:=λp hp=>by
      rw[<-u]at hp;obtain⟨j,h1,h2,e1,e2⟩:=zlc hp;rw[e1];exact(U.at1 _ (QC h1)).1
     have h0:∀W,Apart (GU w2.heap.size n) w.heap.size wr W->∀k,k<w2.heap.size->W.heap[k]? = w2.heap[k]? := λW hW k hk=>by
      refine(hW.keep k (by omega) λhh=>?_).trans ((U.below.block k (by omega)).trans (he.out.block k hk))
      rcases hh with e|⟨p,hp,e⟩
      ·omega
      ·have:=hD p hp;omega
     have gv:∀W,Apart (GU w2.heap.size n) w.heap.size wr W->ValIn m t b z A L1 Al L2 Ac W:=λW hW=>by
      have gl:=hF.trans hW.below;have hl:=gI.out.keep λg hg=>h0 W hW g (QE gI.out g hg).2
      have hc:=gC.out.keep λg hg=>h0 W hW g (QE gC.out g hg).2
      obtain⟨A',c',e',ki⟩:=hl.form;obtain⟨kL,kK,kq,gZ⟩:=hc.form;injection e' with e1 _ _
      injection kq with e2 _ _
      subst e1;subst e2
      exact⟨(HH.out.f.below gl).more gl.size,ki,gZ,HH.out.lib.below gl,HH.out.tab.below gl⟩
     have gS:∀sc:Int,0<=sc->sc<=1000000->znj t z L1 L2 cl sc:=λsc h1 h2=>⟨HH.out.tz,HH.out.fl,λf hf=>(HH.out.fz f hf).1,by have:=gk.1;have:=HH.out.mz;omega,by have:=gk.2;have:=HH.out.mz;omega,HH.out.cz,by omega,by omega⟩
     have hY:zgU w.heap.size w2.heap.size n q wr:=by
      rw[<-u];refine zyE HH.out.lies HH.out.bulk HC.out U hn ⟨gq,gG⟩ U.below.size hF ?_ ?_
      ·rw[u,gE.out];exact gv
      ·rw[gE.out];exact gS
     have kx:a.l.length<=40:=by
      have:=(zlF HC.out).len;rw[show a.set.list.length=a.l.length from Qk _]at this;exact this
     have gF:n.length=a.l.length:=by rw[<-u,List.length_zip];omega
     have hz:Hid (n.map (λp=>p.2.r)=a.set.list):=by unfold Hid;rw[<-u];exact zsr a F hn
     have gA:Hid (q.hit=λsc x=>isR x m t b z cl sc L1 L2):=by unfold Hid;rw[gE.out];rfl
     have gu:Hid (RunAt w.heap.size w2.heap.size n q wr run0 (jD 0 0) wr):=by unfold Hid;rw[<-u];exact zyC U hn (gU.out.keep (U.below.block _ gG))
     have gc:Hid (∀W,Apart (GU w2.heap.size n) w.heap.size wr W->Sl W W.heap.size 1 Av n.length (n.map λp=>ptrV p.1)):=by unfold Hid;rw[<-u];exact λW hW=>zyI U hn gG W hW
     have gM:F.length=n.length:=by omega
     have N:Hid (∀W,Apart (GU w2.heap.size n) w.heap.size wr W->R3' W w.heap.size a.most a.status (.slice a.A a.l.length a.c)/\V4 W (w.heap.size+1+1) 0 0 0 (jD 0 0)):=λW hW=>by
      have km:w.heap.size+1+1<w2.heap.size:=by omega
      have hq:=hX.out w2 ks.out;exact⟨(h0 W hW _ (by omega)).trans hq.1,(h0 W hW _ km).trans hq.2.2.1⟩
     have g8:ActsOk (n.map λp=>p.2.r):=λr hr=>by
      obtain⟨p,hp,rfl⟩:=QS.1 hr;exact hY.acts p hp
     have gY:(n.map λp=>p.2.r).take n.length=n.map λp=>p.2.r:=QR (by rw[Qk];exact Qd _)
     have gf:=zhz q.hit 1 run0 (n.map λp=>p.2.r) g8 ⟨ZB _,by decide⟩ n.length;rw[gY]at gf;obtain⟨s1,gh⟩:∃s1,zfv q.hit 1 (n.map λp=>p.2.r) run0=s1:=⟨_,rfl⟩
     have g2:(zfY q.hit 1 run0 (n.map λp=>p.2.r)).1=s1:=gh;have gx:=gf.lo;have gz:=gf.hi;have hv:=gf.len;rw[g2]at gx gz hv;rw[Qk]at hv
     have k3:s1.mt.length<=1000:=by
      have:run0.mt.length=0:=rfl;omega
     obtain⟨s,gQ⟩:∃s,zfv q.hit 2 (n.map λp=>p.2.r) s1=s:=⟨_,rfl⟩
     have g1:=hIx (zl5 hY 1 run0 (jD 0 0) (by omega) (Qn _) ⟨ZB _,by decide⟩ Av cv wr gu.out gc.out)
     have gt:Hid (∀hZ W,RunAt w.heap.size w2.heap.size n q wr s1 hZ W->Calls prog 120 #[.pointer w2.heap.size,.slice Av F.length cv,jA 2] W (ziM w.heap.size w2.heap.size n q wr s)):=λhZ W hA=>by
      have:=zl5 hY 2 s1 hZ (by omega) k3 ⟨gx,gz⟩ Av cv W hA gc.out;rw[gQ,<-gM]at this;exact this
     rw[gh,<-gM]at g1
     have gL:Hid (G=(0,endS a.most a.status s)):=by
      unfold Hid;rw[gO.out,<-gA.out,<-gQ,<-gh,hz.out]
      rfl
     have kI:=hIx hY;clear hD h0 gv gS hY u gF g8 gY gf g2 gh gQ hv U gO gA hz gu gI gC hn gM kx;go_wp2_with (go_at_call 120;apply Hid.out);unfold Hid
     with_reducible refine g1.out.mono ?_
     rintro e w4 ⟨rfl,hZ,kc⟩;have kf:=hIx (gt.out hZ w4 kc);clear g1 gt kc;go_wp2_with (go_at_call 120;apply Hid.out);unfold Hid
     with_reducible refine kf.out.mono ?_
     rintro e o ⟨rfl,kN,hG⟩;obtain⟨J,I,k5,_⟩:=hG.own.form;obtain⟨nm,gT⟩:∃nm,s.mt.length=nm:=⟨_,rfl⟩
     rw[gT]at k5;subst k5;clear gT;have ⟨gd,D⟩:=N.out o hG.ap;have ⟨u7,u8,u9,hJ,gH,hP⟩:=hG.box.out;have f7:=hG.box.free 7;have r0:o.cell? w.heap.size=some (jA a.most):=Qo _ _ 0 _ _ _ gd;have r1:o.cell? ⟨w.heap.size,1,none⟩=some (jA a.status):=Qo _ _ 1 _ _ _ gd;have ⟨v0,Y,v2,v3⟩:=D.four;have P:=D.free 0;have h6:=D.free 1;have h8:=D.free 2;have V:=D.free 3;have L:w o:=hF.trans hG.ap.below;have g6:=hIx hG;have kp:w.heap.size+1+1≠w2.heap.size:=by omega
     have y:Hid (∀W (S:RunS),(∀j:Nat,j≠w2.heap.size->W.heap[j]? = o.heap[j]?)->o.heap.size=W.heap.size->w W->G=(0,S)->S.mt=s.mt->zhc G w (jC (.tuple #[verV S (.slice J nm I),jA 0])) (putV W (w.heap.size+1+1) S.st S.who S.sc (.slice J nm I))):=λW S h1 h2 h3 h4 h5=>by
      rw[h4];refine⟨(.slice J nm I),rfl,?_,zgd h3 (by omega) _ _ _ _⟩;rw[h5];refine(g6.out.own.keep λg hg=>?_).low hF.size;have kM:=(g6.out.own.lt g hg).1;rw[zsd _ _ _ _ _ _ _ (by omega),h1 g (by omega)]
     cases hu:s.dn with
     |true=>
      rw[hu]at hP;have hK:Hid (G=(0,s)):=by unfold Hid;rw[gL.out];unfold endS;rw[Qf (by rw[hu];simp)]
      clear hu;go_wp2_with fail
      go_quiet (fail)
      have hs:∀j:Nat,(o.drewN nq).heap[j]? = o.heap[j]? := λ_=>rfl
      have ho:o.heap.size=(o.drewN nq).heap.size:=rfl;have d:o (o.drewN nq):=⟨rfl,rfl,rfl,Qd _,λ_ _=>rfl⟩
      have p7:=zaa d u7;have p8:=zaa d u8;have p9:=zaa d u9;have gg:=zaa d hJ;have p1:=zaa d r1;have g7:=zaw d u7 f7;have y0:=zaa d v0;have y1:=zaa d Y;have y2:=zaa d v2;have y3:=zaa d v3;have z0:=zaw d v0 P;have z1:=zaw d Y h6;have z2:=zaw d v2 h8;have z3:=zaw d v3 V;have hx:V4 (o.drewN nq) (w.heap.size+1+1) 0 0 0 (jD 0 0):=D;have h9:w (o.drewN nq):=L.trans (d.mono L.size);generalize o.drewN nq=W6 at *;have HF:=hIx (y.out W6 s (λj _=>hs j) ho h9 hK.out rfl);have t0:=(hx.set s.st s.who s.sc (.slice J nm I)).four;have Q:=hIx t0;clear t0 y gd D hx hs ho g6 N u7 u8 u9 hJ gH hP r0 r1 v0 Y v2 v3 P h6 h8 V f7;go_wp2_with fail;rw[zfO];exact QD (v:=.tuple #[.agg #[jA s.st,jA s.who,jA s.sc,(.slice J nm I)],jA 0]) (by simp[results,results82,go_sem,Q.out.1,Q.out.2.1,Q.out.2.2.1,Q.out.2.2.2]) rfl HF.out
     |false=>
      rw[hu]at hP
      by_cases hm:a.most<=s.sc
      rotate_left
      ·have d9:decide (a.most<=s.sc)=false:=Qt hm
       have hK:Hid (G=(0,s)):=by unfold Hid;rw[gL.out];unfold endS;rw[Qf (λh=>hm h.2)]
       clear hu hm;go_wp2_with fail
       go_quiet (fail)
       have hs:∀j:Nat,(o.drewN nq).heap[j]? = o.heap[j]? := λ_=>rfl
       have ho:o.heap.size=(o.drewN nq).heap.size:=rfl;have d:o (o.drewN nq):=⟨rfl,rfl,rfl,Qd _,λ_ _=>rfl⟩
       have p7:=zaa d u7;have p8:=zaa d u8;have p9:=zaa d u9;have gg:=zaa d hJ;have p1:=zaa d r1;have g7:=zaw d u7 f7;have y0:=zaa d v0;have y1:=zaa d Y;have y2:=zaa d v2;have y3:=zaa d v3;have z0:=zaw d v0 P;have z1:=zaw d Y h6;have z2:=zaw d v2 h8;have z3:=zaw d v3 V;have hx:V4 (o.drewN nq) (w.heap.size+1+1) 0 0 0 (jD 0 0):=D;have h9:w (o.drewN nq):=L.trans (d.mono L.size);generalize o.drewN nq=W6 at *;have HF:=hIx (y.out W6 s (λj _=>hs j) ho h9 hK.out rfl);have t0:=(hx.set s.st s.who s.sc (.slice J nm I)).four;have Q:=hIx t0;clear t0 y gd D hx hs ho g6 N u7 u8 u9 hJ gH hP r0 r1 v0 Y v2 v3 P h6 h8 V f7;go_wp2_with fail;rw[zfO];exact QD (v:=.tuple #[.agg #[jA s.st,jA s.who,jA s.sc,(.slice J nm I)],jA 0]) (by simp[results,results82,go_sem,Q.out.1,Q.out.2.1,Q.out.2.2.1,Q.out.2.2.2]) rfl HF.out
      ·have d9:decide (a.most<=s.sc)=true:=Qx hm
       have hK:Hid (G=(0,{s with st:=a.status})):=by unfold Hid;rw[gL.out];unfold endS;rw[Qj ⟨hu,hm⟩]
       clear hu hm;go_wp2_with fail
       go_quiet (fail)
       have hs:∀j:Nat,(o.drewN nq).heap[j]? = o.heap[j]? := λ_=>rfl
       have ho:o.heap.size=(o.drewN nq).heap.size:=rfl;have d:o (o.drewN nq):=⟨rfl,rfl,rfl,Qd _,λ_ _=>rfl⟩
       have p7:=zaa d u7;have p8:=zaa d u8;have p9:=zaa d u9;have gg:=zaa d hJ;have p1:=zaa d r1;have g7:=zaw d u7 f7;have y0:=zaa d v0;have y1:=zaa d Y;have y2:=zaa d v2;have y3:=zaa d v3;have z0:=zaw d v0 P;have z1:=zaw d Y h6;have z2:=zaw d v2 h8;have z3:=zaw d v3 V;have hx:V4 (o.drewN nq) (w.heap.size+1+1) 0 0 0 (jD 0 0):=D;have h9:w (o.drewN nq):=L.trans (d.mono L.size);generalize o.drewN nq=W6 at *;obtain⟨W7,K⟩:∃W7,W6.setCell ⟨w2.heap.size,7,none⟩ (jA a.status)=W7:=⟨_,rfl⟩
       have k2:∀j:Nat,j≠w2.heap.size->W7.heap[j]? = o.heap[j]? := λj hj=>by rw[<-K,Qm _ _ _ _ hj];exact hs j
       have kt:o.heap.size=W7.heap.size:=by rw[<-K,ZT];exact ho
       have kA:w W7:=by rw[<-K];exact h9.setCell (p:=⟨w2.heap.size,7,none⟩) gq _
       have gm:V4 W7 (w.heap.size+1+1) 0 0 0 (jD 0 0):=(k2 _ kp).trans (D);have HF:=hIx (y.out W7 {s with st:=a.status} k2 kt kA hK.out rfl);have t0:=(gm.set a.status s.who s.sc (.slice J nm I)).four;have Q:=hIx t0;have kr:W7.heap[w2.heap.size]? = (W6.setCell ⟨w2.heap.size,7,none⟩ (jA a.status)).heap[w2.heap.size]? := by rw[K]
       have s7:W7.cell? ⟨w2.heap.size,7,none⟩=some (jA a.status):=by rw[<-K];exact Zx _ _ _ p7
       have s8:W7.cell? ⟨w2.heap.size,8,none⟩=some (jA s.who):=by rw[<-K];exact(QQ _ ⟨w2.heap.size,7,none⟩ ⟨w2.heap.size,8,none⟩ _ (by simp)).trans p8
       have s9:W7.cell? ⟨w2.heap.size,9,none⟩=some (jA s.sc):=by rw[<-K];exact(QQ _ ⟨w2.heap.size,7,none⟩ ⟨w2.heap.size,9,none⟩ _ (by simp)).trans p9
       have kQ:W7.cell? ⟨w2.heap.size,10,none⟩=some (.slice J nm I):=by rw[<-K];exact(QQ _ ⟨w2.heap.size,7,none⟩ ⟨w2.heap.size,10,none⟩ _ (by simp)).trans gg
       have x0:=gm.four;have o0:=gm.free;have kv:=hIx K;clear K kr t0 y gd D hx gm hs ho g6 N u7 u8 u9 hJ gH hP r0 r1 v0 Y v2 v3 P h6 h8 V f7;go_upto_region 18 with fail
       rw[kv.out];clear p7 p8 p9 gg p1 g7 y0 y1 y2 y3 z0 z1 z2 z3;go_wp2_with fail;rw[zfO];exact QD (v:=.tuple #[.agg #[jA a.status,jA s.who,jA s.sc,(.slice J nm I)],jA 0]) (by simp[results,results82,go_sem,Q.out.1,Q.out.2.1,Q.out.2.2.1,Q.out.2.2.2]) rfl HF.out
structure OutM where
 p:OutP
 A:Option Addr
 c:Nat
 Am:Option Addr
 cm:Nat
structure OutOwn(w:World)(base:Nat)(x:OutM):Prop where
 f:OwnV w base (.slice x.A x.p.q.h.fs.length x.c) x.p.q.h.fs
 mt:OwnG rowZ w base (.slice x.Am x.p.mt.length x.cm) x.p.mt
theorem OutOwn.below{w w':World}{base:Nat}{x:OutM}(h:OutOwn w base x)(hb:w w'):OutOwn w' base x:=⟨h.f.below hb,h.mt.below hb⟩
theorem OutOwn.low{w:World}{base b:Nat}{x:OutM}(h:OutOwn w base x)(hb:b<=base):OutOwn w b x:=⟨h.f.low hb,h.mt.low hb⟩
def badM(e:Int):OutM:=⟨errO e,none,0,none,0⟩
theorem zla(e:Int)(w:World)(base:Nat):OutOwn w base (badM e):=⟨OwnV.nil w base,OwnG.nil rowZ w base⟩
structure Rec where
 conn:Int
 out:Int
 by_:Int
 score:Int
 matched:List Int
 target:jE
def wiB(n a b:Int):Bool:=decide (a<=n)&&decide (n<=b)
def zz1(l:List Int):Bool:=l.all λn=>wiB n 1 9999
def zxR(r:Rec):Bool:=wiB r.conn 0 255&&(r.out==0||wiB r.out 400 599)&&wiB r.by_ 0 9999&&wiB r.score 0 1000000
def zrf(r:Rec):Int:=if 40<r.matched.length\/1000<r.target.length then 2 else if zxR r=false\/zz1 r.matched=false then 1 else 0
def be4(l:jE):Int:=l.foldl (λn b=>n*256+(b.toNat:Int)) 0
def zeY(l:jE)(st:Nat × Int)(most:Int):Int × Nat × Int:=
 if st.2≠0 then (0,st.1,st.2)
 else if (l.length:Int)-st.1<4 then (0,st.1,7)
 else if most<be4 ((l.drop st.1).take 4)then (0,st.1+4,4)
 else (be4 ((l.drop st.1).take 4),st.1+4,0)
def far:Int:=4294967296
def idsR(l:jE):Nat->Nat × Int->List Int × Nat × Int
 |0,st=>([],st)
 |k+1,st=>(((zeY l st far).1::(idsR l k (zeY l st far).2).1),(idsR l k (zeY l st far).2).2)
abbrev Read:=Int ⊕ (Rec × Nat)
def endR(l:jE)(c o b s:Int)(m:List Int)(n:Int)(st:Nat × Int):Read:=
 if st.2≠0 then .inl st.2
 else if (l.length:Int)-st.1<n then .inl 7
 else if zrf ⟨c,o,b,s,m,(l.drop st.1).take n.toNat⟩≠0 then .inl (zrf ⟨c,o,b,s,m,(l.drop st.1).take n.toNat⟩)
 else .inr (⟨c,o,b,s,m,(l.drop st.1).take n.toNat⟩,st.1+n.toNat)
def zz9(l:jE)(c o b s:Int)(m:List Int)(st:Nat × Int):Read:=endR l c o b s m (zeY l st 1000).1 (zeY l st 1000).2
def zz7(l:jE)(c o b s k:Int)(st:Nat × Int):Read:=zz9 l c o b s (idsR l k.toNat st).1 (idsR l k.toNat st).2
def cntR(l:jE)(c o b s:Int)(st:Nat × Int):Read:=zz7 l c o b s (zeY l st 40).1 (zeY l st 40).2
def r4(l:jE)(c o b:Int)(st:Nat × Int):Read:=cntR l c o b (zeY l st far).1 (zeY l st far).2
def r3(l:jE)(c o:Int)(st:Nat × Int):Read:=r4 l c o (zeY l st far).1 (zeY l st far).2
def r2(l:jE)(c:Int)(st:Nat × Int):Read:=r3 l c (zeY l st far).1 (zeY l st far).2
def r1(l:jE)(st:Nat × Int):Read:=r2 l (zeY l st far).1 (zeY l st far).2
structure ConP where
 F:ReqV->OutP
 H:Int
 B:Int
 num:Int
 tk:Int
structure ConS where
 gone:Int
 st:Int
 inp:jE
 wt:OutP
 up:jE
 down:jE
 log:List Rec
 jd:Int
def newC:ConS:=⟨0,0,[],errO 0,[],[],[],0⟩
def znO(s:Int):jE:=if 400<=s then [110,111]else [111,107]
def zpl(s:Int)(b:jE):jE:=
 [72,84,84,80,47,49,46,49,32]++Lib.decDigits s.toNat++[32]++znO s++[13,10,67,111,110,116,101,110,116,45,76,101,110,103,116,104,58,32]++Lib.decDigits b.length++[13,10,13,10]++b
def zc3(C:ConS)(s:Int)(b:jE):ConS:={C with down:=C.down++zpl s b}
def recC(num:Int)(o:OutP)(x:Int):Rec:=⟨num,x,o.who,o.sc,o.mt,o.q.h.t.data.toList⟩
def zhv(num:Int)(C:ConS)(o:OutP)(x:Int):ConS:={C with log:=C.log++[recC num o x]}
def endC(C:ConS):ConS:={C with st:=2,inp:=[],wt:=errO 0}
def zns(C:ConS):ConS:={C with st:=0,gone:=0,wt:=errO 0}
def judC(p:ConP)(C:ConS)(o:OutP):ConS:=
 if o.err≠0 then endC (zc3 C o.err [])
 else if o.st≠0 then zhv p.num (zc3 {C with jd:=C.jd+1} o.st []) o o.st
 else {C with jd:=C.jd+1,up:=C.up++upO o,st:=1,gone:=0,wt:=o}
def onN(p:ConP):Nat->ConS->ConS
 |0,C=>C
 |n+1,C=>if C.st≠0 then C else match oneR C.inp p.H p.B with
  |.error e=>if e=7 then C else endC (zc3 C (zbs e) [])
  |.ok (q,k)=>onN p n (judC p {C with inp:=C.inp.drop k} (p.F q))
def onC(p:ConP)(C:ConS):ConS:=onN p (C.inp.length+1) C
def putC(C:ConS)(s:jE):ConS:={C with inp:=C.inp++s,gone:=if C.st=0 then 0 else C.gone}
def zdX(C:ConS)(s:jE):Int:=if C.st=2 then 8 else if 8192<s.length then 2 else if 65536<C.inp.length+s.length then 10 else 0
def zdT(p:ConP)(C:ConS)(s:jE):ConS:=if zdX C s=0 then onC p (putC C s)else C
def ansC(p:ConP)(C:ConS)(s:Int)(b:jE)(x:Int):ConS:=onC p (zns (zhv p.num (zc3 C s b) C.wt x))
def zcB(C:ConS)(s:Int)(b:jE):Int:=if C.st=2 then 8 else if C.st≠1\/s<200\/599<s\/4096<b.length then 1 else 0
def zcz(p:ConP)(C:ConS)(s:Int)(b:jE):ConS:=if zcB C s b=0 then ansC p C s b 0 else C
theorem zkO(p:ConP)(C:ConS)(o:OutP):(judC p C o).inp=C.inp\/((judC p C o).inp=[]/\(judC p C o).st=2):=by
 unfold judC
 split
 ·exact .inr ⟨rfl,rfl⟩
 ·split
  ·exact .inl rfl
  ·exact .inl rfl
theorem zdb{p:ConP}{n:Nat}{C:ConS}(h:C.st≠0):onN p n C=C:=by
 cases n with
 |zero=>rfl
 |succ n=>unfold onN;rw[Qj h]
theorem zkq{p:ConP}{n:Nat}{C:ConS}{e:Int}(a:C.st=0)(h:oneR C.inp p.H p.B=.error e):onN p (n+1) C=if e=7 then C else endC (zc3 C (zbs e) []):=by
 show (if C.st≠0 then C else match oneR C.inp p.H p.B with|.error e=>if e=7 then C else endC (zc3 C (zbs e) [])|.ok (q,k)=>onN p n (judC p {C with inp:=C.inp.drop k} (p.F q)))=_
 rw[Qf (by omega),h]
theorem zo6{p:ConP}{n:Nat}{C:ConS}{q:ReqV}{k:Nat}(a:C.st=0)(h:oneR C.inp p.H p.B=.ok (q,k)):onN p (n+1) C=onN p n (judC p {C with inp:=C.inp.drop k} (p.F q)):=by
 show (if C.st≠0 then C else match oneR C.inp p.H p.B with|.error e=>if e=7 then C else endC (zc3 C (zbs e) [])|.ok (q,k)=>onN p n (judC p {C with inp:=C.inp.drop k} (p.F q)))=_
 rw[Qf (by omega),h]
theorem zwt{p:ConP}(b:0<=p.H)(c:0<=p.B):∀(n m:Nat) (C:ConS),C.inp.length<n->C.inp.length<m->onN p n C=onN p m C:=by
 intro n
 induction n with
 |zero=>intro m C h;omega
 |succ n ih=>
  intro m C d f;cases m with
  |zero=>omega
  |succ m=>
   by_cases a:C.st=0
   ·cases h:oneR C.inp p.H p.B with
    |error e=>rw[zkq a h,zkq a h]
    |ok x=>
     obtain⟨q,k⟩:=x;obtain⟨_,h1,h2⟩:=zgi b c h;rw[zo6 a h,zo6 a h]
     rcases zkO p {C with inp:=C.inp.drop k} (p.F q)with e|⟨_,e⟩
     ·refine ih m _ ?_ ?_ <;> rw[e] <;> dsimp only <;> rw[QJ] <;> omega
     ·rw[zdb (by rw[e];decide),zdb (by rw[e];decide)]
   ·rw[zdb a,zdb a]
theorem zkv{p:ConP}{C:ConS}(h:C.st≠0):onC p C=C:=zdb h
theorem zko{p:ConP}{C:ConS}{e:Int}(a:C.st=0)(h:oneR C.inp p.H p.B=.error e):onC p C=if e=7 then C else endC (zc3 C (zbs e) []):=zkq a h
theorem zwC{p:ConP}{C:ConS}{q:ReqV}{k:Nat}(a:0<=p.H)(b:0<=p.B)(c:C.st=0)(h:oneR C.inp p.H p.B=.ok (q,k)):onC p C=onC p (judC p {C with inp:=C.inp.drop k} (p.F q)):=by
 obtain⟨_,h1,h2⟩:=zgi a b h;unfold onC;rw[zo6 c h]
 rcases zkO p {C with inp:=C.inp.drop k} (p.F q)with e|⟨_,e⟩
 ·refine zwt a b _ _ _ ?_ (Zu _)
  rw[e];dsimp only;rw[QJ];omega
 ·rw[zdb (by rw[e];decide),zdb (by rw[e];decide)]
