/- Lemmas for the last texts. -/
import Derived.Test.YtnnokglddolglaaGreatDoorM16
import Derived.Lib.Strings
import Derived.Lib.ItoaNum
import Derived.Lib.Bytealg
import Derived.Laws.BitsAllLaws
import Derived.Laws.BitsLemmas
import Derived.Shelf.SlicesQ.Equal
set_option maxHeartbeats 1600000
set_option maxRecDepth 100000
namespace Go.Proofs.YtnnokglddolglaaGreatDoor
open Go.RowKit Go.Proofs.Tryz
section
variable {ws:List ByteArray} {lo g cap:Nat} {ns:List zaC} {ss:List jE} {ms:List zcG} {w:World}
theorem zqx(c:zji ws)(s:ByteArray)(h:s.size<=8192)(a:TreeIs w lo ws g cap ns ss ms):
 Calls prog 282 #[.slice g ms.length cap,jA (ws.length:Int),.string s] w λe w'=>e=jC (jA 0)/\w w':=by
 have b:=hIx (zqp ws c.few lo g cap ns ss ms w a);have f:decide ((8192:Int)<(s.size:Int))=false:=by simp;omega
 clear a
 go_in
 go_wp2_with (go_at_call 304;refine b.out.mono ?_;rintro e d ⟨rfl,hb⟩);go_ret;exact⟨rfl,hb⟩
theorem zsY(f:zji ws)(s:ByteArray)(h:s.size<=8192)(c:TreeIs w lo ws g cap ns ss ms):
 Calls prog 248 #[.slice g ms.length cap,jA (ws.length:Int),.string s] w λe w'=>
  e=jC (.tuple #[.bool (decide (0<(za6 (lstS ws) s.data.toList s.data.toList.length).length)),jA 0])/\w w':=by
 have j:=hIx (zqx f s h c);have m:Hid (∀a,w a->Calls prog 283 #[.slice g ms.length cap,.string s,jA 1] a (zpk (lstS ws) s.data.toList 1 a)):=hIx λa hb=>zre ws f 1 (.inl rfl) s h lo g cap ns ss ms a (c.below hb)
 have k:Hid (decide (0<(zmv (lstS ws) s.data.toList 1).length)=decide (0<(za6 (lstS ws) s.data.toList s.data.toList.length).length)):=by
  unfold Hid zmv;rw[Qg rfl];generalize za6 (lstS ws) s.data.toList s.data.toList.length=l;cases l with
  |nil=>rfl
  |cons y r=>simp
 clear c f
 go_in
 go_wp2_with (first|(go_at_call 282;refine j.out.mono ?_;rintro e a ⟨rfl,hb⟩)|(go_at_call 283;refine(m.out _ hb).mono ?_;rintro e w2 ⟨v,rfl,i,d⟩;obtain⟨n,c5,rfl,_⟩:=i.form))
 go_ret2
 exact⟨Zi (λb=>jC (.tuple #[.bool b,jA 0])) k.out,hb.trans (d.mono hb.size)⟩
end
theorem zm1:zwG:=λws n h1 h2 j A c B e i a f g cap d b l ats w k h=>znA ws n h1 h2 j A c B e i a f g cap d b l ats w k h
def zw5(ws:List ByteArray)(w:World)(e:Ending)(w':World):Prop:=
 w w'/\((∃r:Nat,0<r/\e=jC (.tuple #[jD 0 0,jA (r:Int)])/\(zcy ws≠0\/Full (lstS ws)))\/(zji ws/\∃g cap c b a,e=jC (.tuple #[.slice (some ⟨g,0,none⟩) a.length cap,jA 0])/\TreeIs w' w.heap.size ws g cap c b a))
theorem zov(A:Option Addr)(c n:Nat)(ws:List ByteArray)(w:World)(b:ws.length=n)(h:Sl w w.heap.size 1 A n (ws.map Value.string)):
 Calls prog 106 #[.slice A n c] w (zw5 ws w):=by
 by_cases a:zcy ws=0
 ·refine(zmw zm1 A c n ws w b h a).mono ?_
  rintro e w' ⟨hb,⟨rfl,f⟩|⟨g,cap,k,i,d,rfl,j⟩⟩
  ·exact⟨hb,.inl ⟨2,by decide,rfl,.inr f⟩⟩
  ·exact⟨hb,.inr ⟨zcr a,g,cap,k,i,d,rfl,j⟩⟩
 ·refine(zgI A c n ws w b h a).mono ?_
  rintro e w' ⟨rfl,hb⟩;exact⟨hb,.inl ⟨zcy ws,by omega,rfl,.inl a⟩⟩
def OkW(ws:List ByteArray):Prop:=zji ws/\¬Full (lstS ws)
theorem zgK{ws:List ByteArray}(h:zji ws):zcy ws=0:=by
 unfold zcy;have h1:=h.few;have h2:=h.some
 have c:anyN (λj=>decide (40<(ws.getD j ByteArray.empty).size)) ws.length=false:=(zek _ _).2 λj a=>by
  rw[Qo,Qd a];have:=h.short ws[j] (Qz a)
  simpa using this
 have b:Lib.containsS ws ByteArray.empty=false:=by
  cases d:Lib.containsS ws ByteArray.empty with
  |false=>rfl
  |true=>exact absurd rfl (h.full _ ((Lib.containsS_iff _ _).1 d))
 rw[Qe (by omega),Qe (by rw[c];decide),Qe (by omega),Qe (by rw[b];decide)]
theorem zjF{ws:List ByteArray}(h:zji ws):∀v∈lstS ws,v.length<=40:=λv a=>by
 obtain⟨x,b,rfl⟩:=QR.1 a;have:=h.short x b
 simpa using this
section
variable {A:Option Addr} {c n:Nat} {ws:List ByteArray} {w:World}
theorem zuu(a:OkW ws)(k:ws.length=n)(h:Sl w w.heap.size 1 A n (ws.map Value.string)):
 Calls prog 106 #[.slice A n c] w λe w'=>w w'/\∃g cap i f d,e=jC (.tuple #[.slice (some ⟨g,0,none⟩) d.length cap,jA 0])/\TreeIs w' w.heap.size ws g cap i f d:=by
 refine(zov A c n ws w k h).mono ?_;rintro e w' ⟨hb,⟨r,_,_,b⟩|⟨_,g,cap,i,f,d,rfl,j⟩⟩
 ·rcases b with b|b
  ·exact absurd (zgK a.1) b
  ·exact absurd b a.2
 ·exact⟨hb,g,cap,i,f,d,rfl,j⟩
theorem zxp(a:¬OkW ws)(i:ws.length=n)(h:Sl w w.heap.size 1 A n (ws.map Value.string)):
 Calls prog 106 #[.slice A n c] w λe w'=>w w'/\∃r:Nat,0<r/\e=jC (.tuple #[jD 0 0,jA (r:Int)]):=by
 refine(zov A c n ws w i h).mono ?_;rintro e w' ⟨hb,⟨r,f,rfl,_⟩|⟨d,g,cap,l,k,j,rfl,b⟩⟩
 ·exact⟨hb,r,f,rfl⟩
 ·exact absurd ⟨d,zgC b.lev (zjF d) b.few⟩ a
end
section
open Classical in
noncomputable def mkC(ws:List ByteArray):Nat:=if zcy ws≠0 then zcy ws else if Full (lstS ws)then 2 else 0
theorem zsX{ws:List ByteArray}:mkC ws=0↔OkW ws:=by
 unfold mkC
 by_cases a:zcy ws=0
 ·rw[Qe (by rw[a];decide)]
  by_cases b:Full (lstS ws)
  ·rw[Qg b];exact⟨λe=>absurd e (by decide),λh=>absurd b h.2⟩
  ·rw[Qe b];exact⟨λ_=>⟨zcr a,b⟩,λ_=>rfl⟩
 ·rw[Qg a];exact⟨λe=>absurd e a,λh=>absurd (zgK h.1) a⟩
theorem zrr(A:Option Addr)(c n:Nat)(ws:List ByteArray)(w:World)(f:ws.length=n)(h:Sl w w.heap.size 1 A n (ws.map Value.string)):
 Calls prog 106 #[.slice A n c] w λe w'=>w w'/\∃v,e=jC (.tuple #[v,jA (mkC ws:Nat)]):=by
 by_cases a:zcy ws=0
 ·refine(zmw zm1 A c n ws w f h a).mono ?_
  rintro e w' ⟨hb,⟨rfl,i⟩|⟨g,cap,l,k,j,rfl,b⟩⟩
  ·have e:mkC ws=2:=by unfold mkC;rw[Qe (by rw[a];decide),Qg i]
   rw[e];exact⟨hb,_,rfl⟩
  ·have d:=zcr a
   rw[zsX.2 ⟨d,zgC b.lev (zjF d) b.few⟩];exact⟨hb,_,rfl⟩
 ·refine(zgI A c n ws w f h a).mono ?_
  rintro e w' ⟨rfl,hb⟩;have e:mkC ws=zcy ws:=by unfold mkC;rw[Qg a]
  rw[e];exact⟨hb,_,rfl⟩
end
def zeH(b:UInt8):UInt8:=if 65<=b.toNat/\b.toNat<=90 then b+32 else b
def zay(l:jE):jE:=l.map zeH
def zbv(k:Nat)(l:jE):jE:=(l.take k).map zeH++l.drop k
theorem zjc(k:Nat)(l:jE):(zbv k l).length=l.length:=by
 simp[zbv];omega
theorem zkl(k:Nat)(l:jE)(h:k<l.length)(a:k<(zbv k l).length):(zbv k l)[k]=l[k]:=by
 have e:(zbv k l)[k]? = l[k]? := by
  unfold zbv;rw[Q0 (by simp;omega)];simp[Xn (QX h)]
 rw[Qd a,Qd h]at e;exact QD e
theorem ziQ(k:Nat)(l:jE)(h:k<l.length):(zbv k l).set k (zeH l[k])=zbv (k+1) l:=by
 have a:((l.take k).map zeH).length=k:=by simp;omega
 unfold zbv;rw[ZH k _ (by omega),a,Xg,Zb h,Za,Qs h,Q2,QG]
 rfl
theorem zlB(k:Nat)(l:jE)(h:k<l.length)(e:zeH l[k]=l[k]):zbv k l=zbv (k+1) l:=by
 rw[<-ziQ k l h,e];refine(List.ext_getElem (by simp) λi h1 h2=>?_).symm;rw[List.getElem_set]
 split
 ·rename_i a;subst a;rw[zkl _ _ h]
 ·rfl
theorem zmi(l:jE):zbv 0 l=l:=by simp[zbv]
theorem znb(k:Nat)(l:jE)(h:l.length<=k):zbv k l=zay l:=by
 simp[zbv,zay,QF h,QN h]
def zup(s:ByteArray)(w:World)(g:Nat)(i:Value)(wr:World):Prop:=
 ∃k:Nat,k<=s.size/\i=jA k/\BytesAt wr g (zbv k s.data.toList)/\w wr
def zbJ(r:ByteArray)(w:World)(e:Ending)(w':World):Prop:=e=jC (.string r)/\w w'
theorem zbd(s:ByteArray)(w:World)(z:s.size<=maxLen):
 Calls prog 64 #[.string s] w (zbJ (bs (zay s.data.toList)) w):=by
 unfold maxLen at z
 go_in
 go_wp2_with (refine zeb rfl _ 9 140 5 rfl underlying9 underlying140 underlying5 _ rfl ?_;intro c D H l g m);have G:=hIx m;clear m;have u:w.heap.size<=w.heap.size:=Qc _
 go_loopw [10] (λi wr=>zup s w w.heap.size i wr) (λi _=>s.size-(intOf i).toNat)
 case atStart=>exact⟨0,Qm _,rfl,by rw[zmi];exact l,g⟩
 case round=>
  obtain⟨k,F,rfl,hb,b⟩:=hrel;clear l g;have d:Hid ((zbv k s.data.toList).length=s.size):=by unfold Hid;rw[zjc];simp
  by_cases f:k<s.size
  ·have hl:k<(zbv k s.data.toList).length:=by rw[d.out];exact f
   have e:k<s.data.toList.length:=by simpa using f
   have o:=hb.cell hl;have B:=hb.free hl;have h:=zkl k s.data.toList e hl;rw[h]at o;have r:=hIx hb;have v:=(s.data.toList[k]).toNat_lt;clear hb h;have I:Hid (s.data.toList[k]=s.data.toList[k]):=rfl;generalize t:s.data.toList[k]=x at *;have j:=hIx t;clear t
   by_cases n:65<=(x.toNat:Int)/\(x.toNat:Int)<=90
   ·have q:=n.1
    have E:=n.2
    have a:Hid ((zeH x).toNat=x.toNat+32):=by
     unfold Hid zeH;rw[Qg (by omega),UInt8.toNat_add];simp;omega
    go_wp2
    go_roundw
    case rel=>
     refine⟨k+1,by omega,by go_num,?_,b.setCell (p:=⟨w.heap.size,k,none⟩) u _⟩;rw[<-ziQ k _ e,j.out];have:=r.out.set hl (zeH x);rw[a.out]at this;exact this
    case measure=>simp[intOf] <;> omega
   ·have a:zeH x=x:=by unfold zeH;rw[Qe (by omega)]
    have y:=hIx a;clear a
    rcases(show (x.toNat:Int)<65\/90<(x.toNat:Int)by omega)with q|q
    all_goals
     clear n
     go_wp2
     go_roundw
     case rel=>
      refine⟨k+1,by omega,by go_num,?_,b⟩;rw[<-zlB k _ e (by rw[j.out];exact y.out)];exact r.out
     case measure=>simp[intOf] <;> omega
  ·have C:=zcQ (P:=prog) hb 140 9 5 s.size c (by rw[d.out]) underlying140 underlying5 underlying9
   have A:=hIx (znb k s.data.toList (by simp;omega));clear hb
   go_wp2
   go_ret;exact⟨by rw[A.out];rfl,b⟩
def zgi(b:UInt8):Bool:=b==32||b==9
theorem zt6{b:UInt8}(h:(b.toNat:Int)=32\/(b.toNat:Int)=9):zgi b=true:=by
 unfold zgi
 rcases h with h|h
 ·rw[show b=32 from Zs.1 (show b.toNat=32 by omega)];rfl
 ·rw[show b=9 from Zs.1 (show b.toNat=9 by omega)];rfl
theorem zrk{b:UInt8}(h:¬(b.toNat:Int)=32)(a:¬(b.toNat:Int)=9):zgi b=false:=by
 unfold zgi;rw[XH];exact⟨Qb.2 (by rintro rfl;exact h rfl),Qb.2 (by rintro rfl;exact a rfl)⟩
def zc0(l:jE):jE:=(l.reverse.dropWhile zgi).reverse
def zaG(l:jE):jE:=zc0 (l.dropWhile zgi)
theorem zlt(l:jE)(b:UInt8)(h:zgi b=true):zc0 (l++[b])=zc0 l:=by simp[zc0,h]
theorem zlX(l:jE)(b:UInt8)(h:zgi b=false):zc0 (l++[b])=l++[b]:=by simp[zc0,h]
def zu2(s:ByteArray)(i:Value):Prop:=∃k:Nat,k<=s.size/\i=jA k/\zaG s.data.toList=zc0 ((s.data.toList.drop k).dropWhile zgi)
def zv7(s:ByteArray)(a:Nat)(i:Value):Prop:=∃b:Nat,a<=b/\b<=s.size/\i=jA b/\zaG s.data.toList=zc0 ((s.data.toList.take b).drop a)
theorem zdE(s:ByteArray)(w:World)(J:s.size<=maxLen):
 Calls prog 80 #[.string s] w λe w'=>e=jC (.string (bs (zaG s.data.toList)))/\w'=w:=by
 unfold maxLen at J;have t:Hid (s.data.toList.length=s.size):=by unfold Hid;simp
 have L:Hid (∀i n,(s.extract i n).data.toList=(s.data.toList.take n).drop i):=λi n=>by rw[ZK,List.drop_take]
 go_in
 go_wp2
 go_loop [3] (λi=>zu2 s i) (λi=>s.size-(intOf i).toNat)
 case atStart=>exact⟨0,Qm _,rfl,rfl⟩
 case round=>
  obtain⟨k,F,rfl,q⟩:=hrel;have z:=hIx q;clear q
  by_cases d:∃h:k<s.size,(s[k].toNat:Int)=32\/(s[k].toNat:Int)=9
  ·obtain⟨f,j⟩:=d
   have K:=hIx (zaH s k f);have r:=hIx (zt6 j)
   rcases j with h1|h1
   have A:((s[k].toNat:Int)==32)=true:=Zo.2 h1
   rotate_left
   have A:((s[k].toNat:Int)==32)=false:=Qb.2 (by omega);have E:((s[k].toNat:Int)==9)=true:=Zo.2 h1
   all_goals
    clear h1
    go_wp2
    go_round
    case rel=>exact⟨k+1,by omega,by go_num,by rw[z.out,K.out,XK,r.out];rfl⟩
    case measure=>simp[intOf] <;> omega
  ·have m:zaG s.data.toList=zc0 ((s.data.toList.take s.size).drop k):=by
    rw[z.out,QF (by rw[t.out];exact Qc _)]
    by_cases f:k<s.size
    ·have hb:zgi s[k]=false:=zrk (λh=>d ⟨f,.inl h⟩) (λh=>d ⟨f,.inr h⟩)
     rw[zaH s k f,XK,hb];rfl
    ·rw[QN (by rw[t.out];omega)];rfl
   have I:=hIx m;clear m
   have g:¬k<s.size\/∃h:k<s.size,((s[k].toNat:Int)==32)=false/\((s[k].toNat:Int)==9)=false:=by
    by_cases f:k<s.size
    ·exact .inr ⟨f,Qb.2 (λh=>d ⟨f,.inl h⟩),Qb.2 (λh=>d ⟨f,.inr h⟩)⟩
    ·exact .inl f
   clear d
   rcases g with B|⟨f,A,E⟩
   all_goals
    go_wp2
    go_loop [4] (λi=>zv7 s k i) (λi=>(intOf i).toNat)
    case atStart=>exact⟨s.size,F,Qc _,rfl,I.out⟩
    case round=>
     obtain⟨b,D,C,rfl,q⟩:=hrel;have o:=hIx q;clear q
     by_cases d:∃h:b-1<s.size,k<b/\((s[b-1].toNat:Int)=32\/(s[b-1].toNat:Int)=9)
     ·obtain⟨a,l,j⟩:=d
      have r:=hIx (zt6 j)
      have p:Hid ((s.data.toList.take b).drop k=(s.data.toList.take (b-1)).drop k++[s[b-1]]):=by
       unfold Hid;have e:=zhC s (b-1) a;rw[show b-1+1=b by omega]at e;rw[e,Z3 (by rw[QJ,t.out];omega)]
      obtain⟨c,rfl⟩:∃c,b=c+1:=⟨b-1,by omega⟩
      simp only[Nat.add_sub_cancel]at j r p a;have u:(k:Int)<(c:Int)+1:=by omega
      have v:((c:Int)+1-1)=c:=by omega
      rcases j with h1|h1
      have x:((s[c].toNat:Int)==32)=true:=Zo.2 h1
      rotate_left
      have x:((s[c].toNat:Int)==32)=false:=Qb.2 (by omega);have H:((s[c].toNat:Int)==9)=true:=Zo.2 h1
      all_goals
       clear h1
       go_wp2
       go_round
       case rel=>exact⟨c,by omega,by omega,by go_num,by rw[o.out,p.out,zlt _ _ r.out]⟩
       case measure=>simp[intOf] <;> omega
     ·have y:Hid (zc0 ((s.data.toList.take b).drop k)=(s.data.toList.take b).drop k):=by
       unfold Hid
       by_cases l:k<b
       ·have a:b-1<s.size:=by omega
        have e:=zhC s (b-1) a;rw[show b-1+1=b by omega]at e;rw[e,Z3 (by rw[QJ,t.out];omega)];exact zlX _ _ (zrk (λh=>d ⟨a,l,.inl h⟩) (λh=>d ⟨a,l,.inr h⟩))
       ·rw[QN (by rw[QJ];omega)];rfl
      have g:b=k\/∃(c:Nat) (h:c<s.size),b=c+1/\k<c+1/\((s[c].toNat:Int)==32)=false/\((s[c].toNat:Int)==9)=false:=by
       by_cases l:k<b
       ·have a:b-1<s.size:=by omega
        exact .inr ⟨b-1,a,by omega,by omega,Qb.2 (λh=>d ⟨a,l,.inl h⟩),Qb.2 (λh=>d ⟨a,l,.inr h⟩)⟩
       ·exact .inl (by omega)
      clear d
      rcases g with rfl|⟨c,N,rfl,G,x,H⟩
      ·go_wp2
       go_ret;exact⟨zsl (zgO (by rw[o.out,y.out,QN (by rw[QJ];omega)];rfl)),rfl⟩
      ·have u:(k:Int)<(c:Int)+1:=by omega
       have v:((c:Int)+1-1)=c:=by omega
       go_wp2
       go_ret;exact⟨zsl (zgO (by rw[L.out,o.out,y.out])),rfl⟩
def LibOk(w:World):Prop:=∃m:Int,w.cell? (0:)=some (jA m)
theorem LibOk.pos{w:World}(h:LibOk w):0<w.heap.size:=by
 obtain⟨m,a⟩:=h;exact QQ w ⟨0,0,none⟩ a
theorem LibOk.below{w w':World}(h:LibOk w)(hb:w w'):LibOk w':=by
 have a:=h.pos;obtain⟨m,b⟩:=h;exact⟨m,(hb.cell (p:=⟨0,0,none⟩) a).trans b⟩
def zfJ:jE:=[33,35,36,37,38,39,42,43,45,46,94,95,124,126,96]
def letB(b:UInt8):Bool:=decide (97<=(b|||32).toNat)&&decide ((b|||32).toNat<=122)||decide (48<=b.toNat)&&decide (b.toNat<=57)
def tokB(b:UInt8):Bool:=letB b||decide (0<=Lib.indexByte zfJ b)
def zdm(l:jE):Bool:=!l.isEmpty&&l.all tokB
def zyL(s:ByteArray)(i:Value):Prop:=∃k:Nat,k<=s.size/\i=jA k/\s.data.toList.all tokB=(s.data.toList.drop k).all tokB
theorem zeg(b:UInt8):((b.toNat:Int)).toNat.toUInt8=b:=by simp
theorem zwD{b:UInt8}{c i:Int}(a:c=(b|||32).toNat)(d:i=Lib.indexByte zfJ b)(h:(97<=c/\c<=122)\/(48<=(b.toNat:Int)/\(b.toNat:Int)<=57)\/0<=i):tokB b=true:=by
 subst d;subst a
 unfold tokB letB;simp only[Xo,QU,QY];omega
theorem zyS{b:UInt8}{c i:Int}(a:c=(b|||32).toNat)(d:i=Lib.indexByte zfJ b)(h:¬((97<=c/\c<=122)\/(48<=(b.toNat:Int)/\(b.toNat:Int)<=57)\/0<=i)):tokB b=false:=by
 subst d;subst a
 unfold tokB letB;simp only[XH,Bool.and_eq_false_iff,decide_eq_false_iff_not];omega
theorem ztF(s:ByteArray)(w:World)(u:s.size<=maxLen):
 Calls prog 87 #[.string s] w λe w'=>e=jC (.bool (zdm s.data.toList))/\w'=w:=by
 unfold maxLen at u;have n:Hid (s.data.toList.length=s.size):=by unfold Hid;simp
 go_in
 go_wp2_with fail
 go_loop [8] (λi=>zyL s i) (λi=>s.size-(intOf i).toNat)
 case atStart=>exact⟨0,Qm _,rfl,rfl⟩
 case round=>
  obtain⟨k,x,rfl,o⟩:=hrel;have a:=hIx o;clear o
  by_cases d:k<s.size
  ·have m:=hIx (zaH s k d)
   have f:Hid (s.data.toList.isEmpty=false):=by
    unfold Hid;cases h:s.data.toList with
    |nil=>have:=n.out;rw[h]at this;simp at this;omega
    |cons _ _=>rfl
   have r:=s[k].toNat_lt;obtain⟨c,j⟩:∃c:Int,c=(s[k]|||32).toNat:=⟨_,rfl⟩
   have t:bits BinOp.or IntKind.u8 (s[k].toNat:Int) 32=c:=by
    rw[j,UInt8.toNat_or];exact u8_or_nat _ _ s[k].toNat_lt (by decide)
   have l:=hIx j;clear j;obtain⟨p,q⟩:∃p:Int,p=Lib.indexByte zfJ s[k]:=⟨_,rfl⟩
   have b:=hIx q;clear q;go_wp2_with (go_at_call 122;refine(strings_IndexByte _ _ _).mono ?_;rintro e w' ⟨rfl,rfl⟩;rw[zeg,show (ByteArray.mk #[33,35,36,37,38,39,42,43,45,46,94,95,124,126,96]).data.toList=zfJ from rfl,<-b.out])
   all_goals first
    |(
     go_ret
     exact⟨zaK (by unfold zdm;rw[f.out,a.out,m.out,ZR,zyS l.out b.out (by omega)];rfl),rfl⟩)
    |(
     try simp only[Bool.not_eq_eq_eq_not,Bool.not_false,QY]at *
     exact⟨⟨k+1,by omega,by go_num,by rw[a.out,m.out,ZR,zwD l.out b.out (by omega)];rfl⟩,by simp[intOf];omega⟩)
    |(
     go_round
     case rel=>exact⟨k+1,by omega,by go_num,by rw[a.out,m.out,ZR,zwD l.out b.out (by omega)];rfl⟩
     case measure=>simp[intOf] <;> omega)
  ·have g:k=s.size:=by omega
   have v:Hid (s.data.toList.all tokB=true):=by
    unfold Hid;rw[a.out,QN (by rw[n.out];omega)];rfl
   clear g
   go_wp2
   go_ret;exact⟨zaK (by unfold zdm;rw[QP,v.out,Bool.and_true]),rfl⟩
def zei:RowT ByteArray where
 e:=9
 t:=125
 size:=1
 bytes:=16
 z:=.string ByteArray.empty
 cells x:=[.string x]
 hsz _:=rfl
 hpos:=by decide
 under:=underlying125
 info:=by kernel_rfl
 hz:=rfl
 one x u hu:=by
  rw[Qy]at hu;rw[hu];rfl
 hbytes:=by decide
theorem zdH(l:List ByteArray):l.flatMap zei.cells=l.map Value.string:=by
 induction l with
 |nil=>rfl
 |cons a r ih=>rw[QH,ih];rfl
def lowB(p:ByteArray):ByteArray:=bs (zay p.data.toList)
def mixL(a:List ByteArray)(k:Nat):List ByteArray:=(a.take k).map lowB++a.drop k
theorem zpr(a:List ByteArray)(k:Nat):(mixL a k).length=a.length:=by
 unfold mixL;rw[Qa,Qh,QJ,QM];omega
theorem zmd(a:List ByteArray)(k:Nat)(c:k<a.length):(mixL a k)[k]? = some a[k]/\(mixL a k).set k (lowB a[k])=mixL a (k+1):=by
 have hl:((a.take k).map lowB).length=k:=by rw[Qh,QJ];omega
 have b:a.drop k=a[k]::a.drop (k+1):=Zb c;refine⟨?_,?_⟩
 ·unfold mixL
  rw[Q0 (by omega),hl,Xg,b];rfl
 ·unfold mixL
  rw[ZH _ _ (by omega),hl,Xg,b,Za,Qs c,Q2];simp
theorem zuG(a:List ByteArray):mixL a a.length=a.map lowB:=by
 unfold mixL;rw[QF (Qc _),QN (Qc _),QE]
def zby(a:ByteArray):List ByteArray:=Lib.splitB ⟨#[124]⟩ 0 (Lib.countB a ⟨#[124]⟩) a
def phrW(a:ByteArray):List ByteArray:=(zby a).map lowB
def phrF(a b:Nat):Value:=.func (.func 247) #[] #[.pointer a,.pointer b]
def PhrAt(B:Nat)(ws:List ByteArray)(b d:Nat)(w:World):Prop:=
 B<=b/\B<=d/\∃e g cap h f a A c,B<=e/\w.cell? b=some (.slice (some ⟨g,0,none⟩) a.length cap)/\w.cell? d=some (.slice A ws.length c)/\TreeIs w e ws g cap h f a
def zwI(ws:List ByteArray)(w:World)(e:Ending)(w':World):Prop:=
 w w'/\∃a b,e=jC (.tuple #[phrF a b,jA 0])/\PhrAt w.heap.size ws a b w'
def zzr(w:World)(e:Ending)(w':World):Prop:=
 w w'/\∃a b,∃r:Nat,0<r/\e=jC (.tuple #[phrF a b,jA (r:Int)])
theorem zzz{a:List ByteArray}{w:World}{base g:Nat}{k:Nat}(h:OwnG zei w base (.slice g a.length a.length) (mixL a k))(b:k<a.length):w.cell? ⟨g,k,none⟩=some (.string a[k])/\w.frozen? ⟨g,k,none⟩=false:=by
 have hl:=zpr a k;rw[<-hl]at h;have:=h.at k (by omega) 0 (by decide);rw[show k*zei.size+0=k by simp[zei]]at this;obtain⟨h1,_⟩:=zmd a k b;rw[Qd (by omega)]at h1;rw[QD h1]at this;exact this
theorem zyd{a:List ByteArray}{w:World}{base g:Nat}{k:Nat}(h:OwnG zei w base (.slice g a.length a.length) (mixL a k))(c:k<a.length):OwnG zei (w.setCell ⟨g,k,none⟩ (.string (lowB a[k]))) base (.slice g a.length a.length) (mixL a (k+1)):=by
 have hl:=zpr a k;have b:=h;rw[<-hl]at b;have:=(b.stored k (by omega) 0 (by decide) (.string (lowB a[k])) (lowB a[k]) rfl).1;rw[show k*zei.size+0=k by simp[zei],(zmd a k c).2,hl]at this;exact this
def RelL(a:List ByteArray)(w:World)(v:Value)(wr:World):Prop:=
 ∃k:Nat,k<=a.length/\v=jA (k:Int)/\OwnG zei wr w.heap.size (.slice w.heap.size a.length a.length) (mixL a k)/\wr.cell? (w.heap.size+1:)=some (.slice w.heap.size a.length a.length)/\w wr
theorem zke(a:ByteArray):(zby a).length=Lib.countB a ⟨#[124]⟩+1:=Xh ⟨#[124]⟩ (by decide) 0 _ a rfl
theorem zkk(c:UInt8):∀(l:jE),∀x∈splL c l,x.length<=l.length
 | [],x,a=>by
  unfold splL at a;rw[Qy]at a;rw[a];exact Qc _
 |b::l,x,a=>by
  have ih:=zkk c l;unfold splL at a;rw[Qn]
  split at a
  ·rcases QI.1 a with rfl|a
   ·exact Qm _
   ·exact XU (ih x a)
  ·split at a
   ·rw[Qy]at a
    rw[a];simp
   ·rename_i y r d
    rcases QI.1 a with rfl|a
    ·rw[Qn]
     have:=ih y (by rw[d];simp);omega
    ·exact XU (ih x (by rw[d];simp[a]))
theorem zlN(a:ByteArray):∀p∈zby a,p.size<=a.size:=λp b=>by
 have c:p.data.toList∈splL 124 a.data.toList:=by
  rw[<-zbZ];exact QR.2 ⟨p,b,rfl⟩
 have:=zkk 124 _ _ c
 simpa using this
theorem znD(a:ByteArray)(w:World)(B:LibOk w)(ha:a.size<=1048576):
 Calls prog 202 #[.string a] w λe w'=>(OkW (phrW a)->zwI (phrW a) w e w')/\(¬OkW (phrW a)->zzr w e w'):=by
 obtain⟨m0,L⟩:=B;have n:=strings_Split a ⟨#[124]⟩ m0 w (by omega) L (by decide);have y:=zke a;have P:=zlN a;rw[<-y]at n;have T:Hid (phrW a=(zby a).map lowB):=rfl
 change Calls _ _ _ _ λe w'=>e=jC (.slice w.heap.size (zby a).length (zby a).length)/\w'=w.alloc (.cells ((zby a).map Value.string).toArray 9)at n
 generalize phrW a=ws at *;generalize zby a=b at *;have N:=hIx n
 have H:b.length<=1048577:=by
  have:=Lib.countB_le ⟨#[124]⟩ (by decide) a.size a (Qc _);omega
 have D:OwnG zei (w.alloc (.cells (b.map Value.string).toArray 9)) w.heap.size (.slice w.heap.size b.length b.length) b:=by
  have:=XG (base:=w.heap.size) (e:=9) (size:=1) w (b.map Value.string).toArray b.length (Qc _) (by unfold maxLen;omega) (by simp);unfold OwnG;rw[zdH];exact this
 clear n y
 go_in
 go_wp2_with (go_at_call 77;refine N.out.mono ?_;rintro e w1 ⟨rfl,rfl⟩);have K:(w.alloc (.cells (b.map Value.string).toArray 9)).heap.size=w.heap.size+1:=by simp
 go_loopw [12] (λv wr=>RelL b w v wr) (λv _=>b.length-(intOf v).toNat)
 case atStart=>
  refine⟨0,Qm _,rfl,?_,?_,WaL.alloc (by simp) _⟩
  ·have:mixL b 0=b:=by unfold mixL;simp
   rw[this];exact D.below WaL
  ·have:=Qt (w.alloc (.cells (b.map Value.string).toArray 9)) (.cells #[.slice w.heap.size b.length b.length] 125)
   rw[K]at this;exact Qf _ _ 0 _ _ _ this
 case round=>
  obtain⟨k,hk,rfl,p,i,hb⟩:=hrel
  by_cases s:k<b.length
  ·obtain⟨A,I⟩:=zzz p s
   have HO:=hIx p;have t:=hIx hb;have h3:=hIx i;have Q:=QQ wr _ i;have h0:=P b[k] (Qz s);have G:Hid (Calls prog 64 #[.string b[k]] wr.drew (zbJ (lowB b[k]) wr.drew)):=hIx (zbd b[k] wr.drew (by unfold maxLen;omega))
   have F:Hid (∀w2,wr w2->RelL b w (jA ((k:Int)+1)) (w2.setCell ⟨w.heap.size,k,none⟩ (.string (lowB b[k])))):=hIx λw2 d=>
    ⟨k+1,by omega,rfl,zyd (p.below d) s,(World.cell?_setCell_far _ _ _ _ (by show w.heap.size≠w.heap.size+1;omega)).trans (zaa d i),(hb.trans (d.mono hb.size)).setCell (Qc _) _⟩
   generalize b[k]=x at *;clear p hb;go_wp2_with fail
   go_region_with (first|(go_at_call 64;(with_reducible refine(G.out).mono ?_);rintro e w2 ⟨rfl,q⟩;have d:wr w2:=undrew q;have C:=zaa d A;have E:=zaB d A I;have z:=zaa d i))
   all_goals
    have O:=F.out w2 d;clear C E z d q;go_wp2;exact⟨O,by simp[intOf] <;> omega⟩
  ·have e:k=b.length:=by omega
   rw[e,zuG,<-T.out]at p;clear e;have j:ws.length=b.length:=by rw[T.out,Qh]
   have l:Sl wr wr.heap.size 1 (some ⟨w.heap.size,0,none⟩) b.length (ws.map Value.string):=by
    have h2:=p;rw[<-j]at h2;obtain⟨A5,c5,V,S⟩:=h2.form;injection V with Z _ _
    subst Z;rw[zdH,j]at S;exact S
   have Q:=QQ wr _ i;have t:=hIx hb
   by_cases m:OkW ws
   ·have J:=hIx (zuu (c:=b.length) m j l)
    clear p l hb;go_wp2_with (go_at_call 106;refine J.out.mono ?_;rintro e w3 ⟨o,g,cap,X,W,U,rfl,Y⟩);have u:=zaa o i;have f:=t.out.trans (o.mono t.out.size)
    go_ret2
    refine⟨λ_=>⟨f.alloc f.size _,w3.heap.size,w.heap.size+1,rfl,f.size,Zc _,wr.heap.size,g,cap,X,W,U,some ⟨w.heap.size,0,none⟩,b.length,t.out.size,Qf _ _ 0 _ _ _ (Qt w3 _),?_,Y.below WaL⟩,λh=>absurd m h⟩;rw[j];exact zaa WaL u
   ·have J:=hIx (zxp (c:=b.length) m j l)
    clear p l hb;go_wp2_with (go_at_call 106;refine J.out.mono ?_;rintro e w3 ⟨o,r,hr,rfl⟩);have f:=t.out.trans (o.mono t.out.size)
    go_ret2
    exact⟨λh=>absurd h m,λ_=>⟨f.alloc f.size _,w3.heap.size,w.heap.size+1,r,hr,rfl⟩⟩
theorem zjH(base:Int)(b:UInt8):∀(l:jE) (a v:Int),zbr base l a=some v->¬(zaq b<0\/base<=zaq b)->zbr base (l++[b]) a=some (v*base+zaq b)
 | [],a,v,h,hb=>by
  cases h;rw[Xu,zbr,Qe hb];rfl
 |c::l,a,v,h,hb=>by
  rw[zbr]at h
  split at h
  ·cases h
  ·rename_i d
   rw[ZQ,zbr,Qe d];exact zjH base b l _ v h hb
def hexC(d:Nat):UInt8:=UInt8.ofNat (if d<10 then 48+d else 87+d)
theorem zcd(d:Nat)(h:d<16):zaq (hexC d)=(d:Int):=by
 have h:∀d:Fin 16,zaq (hexC d.val)=(d.val:Int):=by decide
 exact h ⟨d,by omega⟩
theorem zkW:∀(k u:Nat),u<10 ^ (k+1)->1<=(Lib.decDigits u).length/\(Lib.decDigits u).length<=k+1
 |0,u,h=>by rw[Lib.decDigits,dif_pos (by simpa using h)];simp
 |k+1,u,h=>by
  rw[Lib.decDigits]
  split
  ·simp
  ·have h2:u / 10<10 ^ (k+1):=by
    rw[Nat.div_lt_iff_lt_mul (by decide)];rw[Nat.pow_succ]at h;omega
   have:=zkW k (u / 10) h2;rw[Qa,QC];omega
def hexF:Nat->Nat->jE
 |0,n=>[hexC n]
 |f+1,n=>if n<16 then [hexC n]else hexF f (n / 16)++[hexC (n % 16)]
theorem zor:∀(f n:Nat),n<16 ^ (f+1)->zbr 16 (hexF f n) 0=some (n:Int)
 |0,n,h=>by
  have h:n<16:=by simpa using h
  rw[hexF,zbr,zcd n h,Qe (by omega),zbr]
  congr 1;omega
 |f+1,n,h=>by
  rw[hexF]
  split
  ·rename_i h
   rw[zbr,zcd n h,Qe (by omega),zbr]
   congr 1;omega
  ·have h2:n / 16<16 ^ (f+1):=by
    rw[Nat.div_lt_iff_lt_mul (by decide)];rw[Nat.pow_succ]at h;omega
   rw[zjH 16 _ _ _ _ (zor f (n / 16) h2) (by rw[zcd _ (XJ _ (by decide))];omega),zcd _ (XJ _ (by decide))]
   congr 1;omega
theorem zic:∀(f n:Nat),1<=(hexF f n).length/\(hexF f n).length<=f+1
 |0,n=>by simp[hexF]
 |f+1,n=>by
  rw[hexF]
  split
  ·simp
  ·have:=zic f (n / 16)
   rw[Qa,QC];omega
theorem zyC(n:Nat)(h:n<268435456):numL 16 7 (hexF 6 n)=some (n:Int):=by
 have:=zic 6 n;unfold numL;rw[Qe (by omega),zor 6 n (by simpa using h)]
abbrev Pair:=ByteArray × ByteArray
def za5(x:Pair):List Value:=[.string x.1,.string x.2]
theorem zgc(l:List Pair):(l.flatMap za5).length=l.length*2:=by
 induction l with
 |nil=>rfl
 |cons x l ih=>rw[QH,Qa,ih];simp only[za5,Qn,QS];omega
theorem zf4(l:List Pair):∀u∈l.flatMap za5,u.oneCell'=true:=λu a=>by
 obtain⟨x,_,h⟩:=List.mem_flatMap.1 a;simp only[za5,QI,ZY,or_false]at h
 rcases h with rfl|rfl <;> rfl
theorem zma:∀(l:List Pair) (k:Nat) (h:k<l.length),(l.flatMap za5)[k*2]? = some (.string l[k].1)/\(l.flatMap za5)[k*2+1]? = some (.string l[k].2)
 | [],k,h=>absurd h (by simp)
 |x::l,0,_=>⟨rfl,rfl⟩
 |x::l,k+1,h=>by
  have:=zma l k (by simpa using h);rw[QH,show (k+1)*2=2+k*2 by omega,Q0 (by simp[za5]),show 2+k*2+1=2+(k*2+1)by omega,Q0 (by simp[za5])]
  simpa[za5]using this
def OwnA(w:World)(base:Nat)(v:Value)(l:List Pair):Prop:=w.ownsRow base 163 2 v l.length (l.flatMap za5)
theorem OwnA.nil(w:World)(base:Nat):OwnA w base (jD 0 0) []:=ZU w base 163 2
theorem OwnA.below{w w':World}{base:Nat}{v:Value}{l:List Pair}(h:OwnA w base v l)(hb:w w'):OwnA w' base v l:=zaU h hb
theorem OwnA.keep{w w':World}{base:Nat}{v:Value}{l:List Pair}(h:OwnA w base v l)(b:∀g,v.ownBlock=some g->w'.heap[g]? = w.heap[g]?):OwnA w' base v l:=by
 refine⟨h.1,?_⟩
 rcases h.2 with d|⟨g,cap,a,h1,h2,e,c⟩
 ·exact .inl d
 ·exact .inr ⟨g,cap,a,h1,h2,(b g (by rw[h1];rfl)).trans e,c⟩
theorem OwnA.low{w:World}{base b:Nat}{v:Value}{l:List Pair}(h:OwnA w base v l)(hb:b<=base):OwnA w b v l:=
 ⟨h.1,h.2.imp_right λ⟨g,cap,a,h1,h2,c⟩=>⟨g,cap,a,h1,Ql hb h2,c⟩⟩
theorem OwnA.form{w:World}{base:Nat}{v:Value}{l:List Pair}(h:OwnA w base v l):∃A c,v=.slice A l.length c/\Sl w w.heap.size 2 A l.length (l.flatMap za5):=by
 rcases h.2 with ⟨h1,h2⟩|⟨g,cap,a,h1,hb,e,_⟩
 ·have:l=[]:=QA h2
  subst this;exact⟨none,0,h1,Sl.nil _ _ _ _⟩
 ·refine⟨_,_,h1,zgc l,λd=>⟨g,0,rfl,?_,λj b=>?_⟩⟩
  ·exact(QK h g (by rw[h1];simp[Value.ownBlock])).2
  ·have:=Zq (g:=g) h (by rw[h1];simp[Value.ownBlock]) j _ (Qd b)
   rw[zba]at this;rw[Zh];exact this
theorem zpl{w:World}{B n:Nat}{A:Option Addr}{l:List Pair}(h:Sl w B 2 A n (l.flatMap za5))(k:Nat)(d:k<l.length):
 ∃b off,A=some ⟨b,off,none⟩/\b<B/\w.cell? ⟨b,off+k*2,none⟩=some (.string l[k].1)/\w.cell? ⟨b,off+k*2+1,none⟩=some (.string l[k].2):=by
 have hl:=zgc l;obtain⟨b,off,e,hb,c⟩:=h.src (by omega);obtain⟨a,h1⟩:=zma l k d;refine⟨b,off,e,hb,?_,?_⟩
 ·rw[c (k*2) (by omega)]
  rw[Qd (by omega)]at a;exact a
 ·rw[Zk,c (k*2+1) (by omega)]
  rw[Qd (by omega)]at h1;exact h1
theorem zkV:(prog.info? 163).map (λi=>(i.zero,i.size,i.bytes))=some (some (.agg #[.string ByteArray.empty,.string ByteArray.empty]),2,32):=by kernel_rfl
section
variable {ops:Array Oper} {rest:List Oper} {o:Oper} {a:Act} {Q:Exit->Act->World->Prop} {w:World}
theorem zaZ(f:o.guard=none)(s x:Operand)(y:o.op=.call {callee:=.builtin .append,args:=#[s,x],argTypes:=#[76,76]})
 (base:Nat) (v:Value) (l:List Pair) (B:a.eval s=v) (d:OwnA w base v l) (b:base<=w.heap.size)
 (n:List Value) (new:Pair) (E:n=za5 new) (p:Nat) (m:w.heap.size=p) (c:Nat) (D:a.eval x=.slice p 1 c)
 (e:l.length<=4194304)
 (h:∀v' w',OwnA w' base v' (l++[new])->Below base w w'->(∀g,g<w.heap.size->v.ownBlock≠some g->w'.heap[g]? = w.heap[g]?)->w.heap.size<w'.heap.size->wpList prog ops Q rest (a.put o.dst v') w'):
 wpList prog ops Q (o::rest) a (w.alloc (.cells n.toArray 163)):=by
 subst E;subst m
 obtain⟨t,C,i,j,k⟩:=ZG zkV
 refine Xe f λ_ r=>zaV s x 76 y base 163 t _ 2 32 underlying76 C i j k rfl (by decide) v l.length (l.flatMap za5) B d b (za5 new) 1 c D rfl
  (λu z=>zf4 [new] u (by simpa using z)) (by unfold maxLen;omega) (by omega) λv' w' h1 h2 A q=>r _ _ (h v' w' (by unfold OwnA;rw[Qa,Q6];simpa using h1) h2 A q)
theorem zcx(r:o.guard=none)(s x:Operand)(G:o.op=.call {callee:=.builtin .append,args:=#[s,x],argTypes:=#[76,76]})
 (base f:Nat) (v u:Value) (l m:List Pair) (H:a.eval s=v) (J:a.eval x=u) (b:OwnA w base v l) (d:OwnA w f u m) (c:base<=w.heap.size)
 (p:l.length+m.length<=4398046511104)
 (h:∀v' w',OwnA w' base v' (l++m)->Below base w w'->(∀g,g<w.heap.size->v.ownBlock≠some g->w'.heap[g]? = w.heap[g]?)->w.heap.size<=w'.heap.size->wpList prog ops Q rest (a.put o.dst v') w'):
 wpList prog ops Q (o::rest) a w:=by
 obtain⟨F,I,y,B,C⟩:=ZG zkV;refine Xe r λK E=>?_
 rcases d.2 with ⟨q,L⟩|⟨g,cap,O,q,S,V,_⟩
 ·have U:m=[]:=QA L
  subst U;subst q
  have T:=run_append_owned_none (P:=prog) (w:=w) base 76 o.type 163 F 2 underlying76 I v l.length (l.flatMap za5) b;unfold Oper.wp execOp;simp only[G,resolve,invoke,builtin,Xf,Sem.run_pure,Zx,List.map_toArray,QW,Zu,H,J,T];exact E _ _ (h v w (by rw[QE];exact b) (Qj _ _) (λ_ _ _=>rfl) (Qc _))
 ·have i:∀j z,(m.flatMap za5)[j]? = some z->w.cell? (Addr.add ⟨g,0,none⟩ j)=some z:=λj z N=>Zq (g:=g) d (by rw[q];simp[Value.ownBlock]) j z N
  refine wp_append_own (P:=prog) w s x 76 G base 163 F _ 2 32 underlying76 I y B C rfl (by decide) v l.length (l.flatMap za5) H b ⟨g,0,none⟩ m.length cap (m.flatMap za5) (J.trans q) (zgc m) i (zf4 m)
   (by unfold maxLen;omega) (by omega) c ?_
  intro v' w' D n _;exact E _ _ (h v' w' (by unfold OwnA;rw[Qa,Q6];exact D) ((Qj _ _).grown n c (λk A=>(QK b k A).1)) (λk A t=>n.block k A (λe=>t e.symm)) n.size)
end
def qs:jE:=[10,13,9,32,92]
def es:jE:=[110,114,116,115,92,45]
theorem zaT(t:ByteArray)(b:UInt8)(W:World):Calls prog 122 #[.string t,.int .u8 b.toNat] W λe w'=>e=jC (jA (Lib.indexByte t.data.toList b))/\w'=W:=by
 have:=strings_IndexByte t b.toNat W;rw[zeg]at this;exact this
theorem zzw(a b:Int)(e:0<=a)(f:a<=15)(hb:0<=b)(d:b<=15):bits .or .i64 (a*16) b=a*16+b:=by
 obtain⟨a,rfl⟩:=Zt e;obtain⟨b,rfl⟩:=Zt hb;have c:((List.range 16).all λx=>(List.range 16).all λy=>decide (bits .or .i64 ((x:Int)*16) (y:Int)=(x:Int)*16+(y:Int)))=true:=by decide+kernel
 have h1:=Zl.1 c a (ZP.2 (by omega));exact Zr (Zl.1 h1 b (ZP.2 (by omega)))
def zj4(c:Int)(o:Option jE):Value:=match o with
 |some l=>.tuple #[.string (bs l),jA 0]
 |none=>.tuple #[.string (bs []),jA c]
def zeO(v:Value)(w:World)(e:Ending)(w':World):Prop:=e=jC v/\w w'
theorem below_drewN{B:Nat}{a w:World}(h:Below B a w)(n:Nat):Below B a (w.drewN n):=⟨h.os,h.tape,h.output,h.size,h.block⟩
theorem OwnB.drewN{w:World}{base:Nat}{v:Value}{l:jE}(h:OwnB w base v l)(n:Nat):OwnB (w.drewN n) base v l:=h
