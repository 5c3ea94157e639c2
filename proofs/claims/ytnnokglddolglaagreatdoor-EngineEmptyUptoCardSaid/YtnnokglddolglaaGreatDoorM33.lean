/- Lemmas for the last texts. -/
import Derived.Test.YtnnokglddolglaaGreatDoorM32
set_option maxHeartbeats 1600000
set_option maxRecDepth 100000
namespace Go.Proofs
open Go.Shelf
def Tryz.lays107_ren:Go.Shelf.Ren:=⟨λ|107=>10|108=>31|n=>n,λ|28=>31|3=>3|4=>4|0=>0|n=>n,λ|n=>n⟩
def Tryz.lays111_ren:Go.Shelf.Ren:=⟨λ|111=>30|n=>n,λ|28=>31|3=>3|4=>4|0=>0|n=>n,λ|n=>n⟩
theorem Tryz.lays111:Go.Proofs.Lays.n111 Tryz.prog Tryz.lays111_ren:=by constructor<;>first|kernel_rfl|(intro _;kernel_rfl)
open Go.RowKit Go.Lib in
theorem Tryz.slices_Equal_int(h k n c o i m d:Nat)(b g:List Int)(w:World)(s:n<=b.length)(r:m<=g.length)(f:n<=9223372036854775807)(a:m<=9223372036854775807)(p:∀j,j<b.length->w.cell? ⟨h,k+j,none⟩=some (.int .i64 (b.getD j 0)))(l:∀j,j<g.length->w.cell? ⟨o,i+j,none⟩=some (.int .i64 (g.getD j 0))):
 Calls Tryz.prog 30 #[.slice (some ⟨h,k,none⟩) n c,.slice (some ⟨o,i,none⟩) m d] w λe w'=>e=.returned (.bool (b.take n==g.take m))/\∃q,w'=w.drewN q:=Any.slices_Equal_int Tryz.lays111 h k n c o i m d b g w s r f a p l
open Go.RowKit Go.Lib in
theorem Tryz.slices_Equal_int_empty(b f:Option Addr)(c m d:Nat)(w:World)(a:m<=9223372036854775807):
 Calls Tryz.prog 30 #[.slice b 0 c,.slice f m d] w λe w'=>e=.returned (.bool (decide (m=0)))/\w'=w:=Any.slices_Equal_int_empty Tryz.lays111 b f c m d w a
open Go.RowKit Go.Lib in
theorem Tryz.slices_Equal_int_lens(b f:Option Addr)(n c m d:Nat)(w:World)(a:n≠m):
 Calls Tryz.prog 30 #[.slice b n c,.slice f m d] w λe w'=>e=.returned (.bool false)/\w'=w:=Any.slices_Equal_int_lens Tryz.lays111 b f n c m d w a
end Go.Proofs
namespace Go.Proofs.YtnnokglddolglaaGreatDoor
open Go.RowKit
section
open Go.ChangeShapes Go.WideShapes Go.Deep
def zeY{H:Type}(f:ByteArray × ByteArray):DataW H:=.agg [.lit (.string f.1.data.toList),.lit (.string f.2.data.toList)]
theorem zvx{c:Type}{l:List c}(h:l.length=2):∃a b,l=[a,b]:=by
 match l,h with
 | [a,b],_=>exact⟨a,b,rfl⟩
theorem ze2:Tryz.prog.cellsOf 9=1:=by kernel_rfl
theorem zfV:Tryz.prog.cellsOf 133=2:=by kernel_rfl
theorem zoN{H:Type}{enc:TypeId × Value->H}{w:World}{base:Nat}{a:Nat->Bool}{d:Bool}{e:Nat}{cs:List Value}{x:DataW H × List MemPlace}
 (h:DataW.trod enc Tryz.prog w base a d e 25 cs=some x):
 ∃(A:Option Addr) (c:Nat) (b:List (ByteArray × ByteArray)),cs=[.slice A b.length c]/\(∀f∈b,f.1.size<=maxLen/\f.2.size<=maxLen)/\Sl w w.heap.size 2 A b.length (zd1 b)/\
  ((x.1=.nil/\b=[])\/∃sp,x.1=.slice (b.map zeY) sp):=by
 obtain⟨A,len,c,l,h1,h2,_,_,p,z,o⟩:=zej 2 (λf:ByteArray × ByteArray=>[.string f.1,.string f.2]) zeY (λf=>f.1.size<=maxLen/\f.2.size<=maxLen) Tryz.underlying25 zfV (λ_=>rfl)
  (λn r y s=>by
   obtain⟨E,D,C,u,hl,j,h1⟩:=trod_struct2 Tryz.underlying133 s;rw[zfV]at hl;obtain⟨c0,c1,rfl⟩:=zvx hl;rw[ze2]at j h1;obtain⟨q,g,k,v⟩:=DataW.trod_string Tryz.underlying9 j;obtain⟨t,i,B,m⟩:=DataW.trod_string Tryz.underlying9 h1;injection g with g _
   injection i with i _
   subst g;subst i;subst k;subst B;subst u
   exact⟨(q,t),rfl,rfl,v,m⟩) h
 subst h2;exact⟨A,c,l,h1,p,z,o⟩
theorem znm:Tryz.prog.cellsOf 27=3:=by kernel_rfl
end
def preL(ws:List (List UInt8)):List (List UInt8):=ws.flatMap λw=>(List.range (w.length+1)).map λn=>w.take n
theorem zv8{ws:List (List UInt8)}(h:(preL ws).length<400):¬Full ws:=by
 rintro⟨d,h1,h2,e⟩
 have:=zja d (preL ws) h1 λv c=>by
  obtain⟨w,b,a⟩:=e v c;exact List.mem_flatMap.2 ⟨w,b,QO.2 ⟨v.length,ZX.2 (by have:=a.length_le;omega),(List.prefix_iff_eq_take.1 a).symm⟩⟩
 omega
def R3(w:World)(g:Nat)(m a:Int)(v:Value):Prop:=w.heap[g]? = some (.cells #[.int .i64 m,.int .i64 a,v] 24 (0,0))
section
variable {w w':World} {g:Nat} {m st:Int} {v:Value}
theorem R3.cell(h:R3 w g m st v):w.cell? ⟨g,0,none⟩=some (.int .i64 m)/\w.cell? ⟨g,1,none⟩=some (.int .i64 st)/\w.cell? ⟨g,2,none⟩=some v:=⟨Qf w g 0 _ _ (0,0) h,Qf w g 1 _ _ (0,0) h,Qf w g 2 _ _ (0,0) h⟩
end
def zeQ:ByteArray:=ByteArray.mk #[101,118,105,108]
def zdD:ByteArray:=ByteArray.mk #[100,114,111,112,124,115,101,108,101,99,116]
def zaO:zd4:=⟨10,403,[⟨1,1,[⟨3,0,ByteArray.mk #[]⟩],[],false,4,zeQ,[⟨2,404⟩],false⟩,⟨2,2,[⟨6,0,ByteArray.mk #[]⟩],[1],false,2,zdD,[⟨3,10⟩],false⟩]⟩
theorem zis:zbC zdD=[⟨#[100,114,111,112]⟩,⟨#[115,101,108,101,99,116]⟩]:=by decide+kernel
theorem zxk:argC 2 zdD=0:=by
 have h:mkC (zbC zdD)=0:=by
  rw[zis];exact ztG.2 ⟨zcu (by decide+kernel),zv8 (by decide+kernel)⟩
 unfold argC;rw[Qe (by decide),Qi rfl,h];rfl
theorem zwM:argC 4 zeQ=0:=by
 unfold argC;rw[Qe (by decide),Qe (by decide),Qe (by decide),Qe (by decide),Qe (by decide),Qe (by decide),Qe (by decide)]
theorem zkT(f:Int->ByteArray->Int)(h1:f 4 zeQ=0)(h2:f 2 zdD=0):zaZ f zaO=0:=by
 have g:zaR varC [⟨3,0,ByteArray.mk #[]⟩]=0:=by decide
 have e:zaR varC [⟨6,0,ByteArray.mk #[]⟩]=0:=by decide
 have b:zaR actC [⟨2,404⟩]=0:=by decide
 have c:zaR actC [⟨3,10⟩]=0:=by decide
 have a:zbt []=0:=by decide
 have d:zbt [1]=0:=by decide
 simp[zaZ,zaO,goC,oneC,zaE,g,e,b,c,a,d,h1,h2]
theorem zl3:zaZ argC zaO=0:=zkT argC zwM zxk
theorem zn1(w F:World)(a:F=(((((((w.alloc (.cells #[.int .i64 10,.int .i64 403,.slice (some ⟨w.heap.size+1+1+1+1+1+1,0,none⟩) 2 2] 24)).alloc (.cells #[.int .i64 3,.int .i64 0,.string (.mk #[])] 55)).alloc (.cells #[.int .i64 2,.int .i64 404] 44)).alloc (.cells #[.int .i64 6,.int .i64 0,.string (.mk #[])] 55)).alloc (.cells #[.int .i64 1] 3)).alloc (.cells #[.int .i64 3,.int .i64 10] 44)).alloc (.cells #[.int .i64 1,.int .i64 1,.slice (some ⟨w.heap.size+1,0,none⟩) 1 1,.slice none 0 0,.bool false,.int .i64 4,.string zeQ,.slice (some ⟨w.heap.size+1+1,0,none⟩) 1 1,.bool false,.int .i64 2,.int .i64 2,.slice (some ⟨w.heap.size+1+1+1,0,none⟩) 1 1,.slice (some ⟨w.heap.size+1+1+1+1,0,none⟩) 1 1,.bool false,.int .i64 2,.string zdD,.slice (some ⟨w.heap.size+1+1+1+1+1,0,none⟩) 1 1,.bool false] 42))):((⟨10,403,some ⟨w.heap.size+1+1+1+1+1+1,0,none⟩,2,[⟨⟨1,1,[⟨3,0,ByteArray.mk #[]⟩],[],false,4,zeQ,[⟨2,404⟩],false⟩,some ⟨w.heap.size+1,0,none⟩,1,none,0,some ⟨w.heap.size+1+1,0,none⟩,1⟩,⟨⟨2,2,[⟨6,0,ByteArray.mk #[]⟩],[1],false,2,zdD,[⟨3,10⟩],false⟩,some ⟨w.heap.size+1+1+1,0,none⟩,1,some ⟨w.heap.size+1+1+1+1,0,none⟩,1,some ⟨w.heap.size+1+1+1+1+1,0,none⟩,1⟩]⟩:RuArg)).set=zaO/\RuLies F F.heap.size (⟨10,403,some ⟨w.heap.size+1+1+1+1+1+1,0,none⟩,2,[⟨⟨1,1,[⟨3,0,ByteArray.mk #[]⟩],[],false,4,zeQ,[⟨2,404⟩],false⟩,some ⟨w.heap.size+1,0,none⟩,1,none,0,some ⟨w.heap.size+1+1,0,none⟩,1⟩,⟨⟨2,2,[⟨6,0,ByteArray.mk #[]⟩],[1],false,2,zdD,[⟨3,10⟩],false⟩,some ⟨w.heap.size+1+1+1,0,none⟩,1,some ⟨w.heap.size+1+1+1+1,0,none⟩,1,some ⟨w.heap.size+1+1+1+1+1,0,none⟩,1⟩]⟩:RuArg)/\zcx (⟨10,403,some ⟨w.heap.size+1+1+1+1+1+1,0,none⟩,2,[⟨⟨1,1,[⟨3,0,ByteArray.mk #[]⟩],[],false,4,zeQ,[⟨2,404⟩],false⟩,some ⟨w.heap.size+1,0,none⟩,1,none,0,some ⟨w.heap.size+1+1,0,none⟩,1⟩,⟨⟨2,2,[⟨6,0,ByteArray.mk #[]⟩],[1],false,2,zdD,[⟨3,10⟩],false⟩,some ⟨w.heap.size+1+1+1,0,none⟩,1,some ⟨w.heap.size+1+1+1+1,0,none⟩,1,some ⟨w.heap.size+1+1+1+1+1,0,none⟩,1⟩]⟩:RuArg)/\Below w.heap.size w F/\R3 F w.heap.size 10 403 (.slice (some ⟨w.heap.size+1+1+1+1+1+1,0,none⟩) 2 2):=by
 have i:F.heap.size=w.heap.size+7:=by rw[a];simp
 have g:F.heap[w.heap.size]? = some (.cells #[.int .i64 10,.int .i64 403,.slice (some ⟨w.heap.size+1+1+1+1+1+1,0,none⟩) 2 2] 24 (0,0)):=by rw[a];exact(Qt _ _ _ (by simp only[Qr];omega)).trans ((Qt _ _ _ (by simp only[Qr];omega)).trans ((Qt _ _ _ (by simp only[Qr];omega)).trans ((Qt _ _ _ (by simp only[Qr];omega)).trans ((Qt _ _ _ (by simp only[Qr];omega)).trans ((Qt _ _ _ (by simp only[Qr];omega)).trans (zbo _ _ _ (by first|rfl|simp only[Qr])))))))
 have h1:F.heap[w.heap.size+1]? = some (.cells #[.int .i64 3,.int .i64 0,.string (.mk #[])] 55 (0,0)):=by rw[a];exact(Qt _ _ _ (by simp only[Qr];omega)).trans ((Qt _ _ _ (by simp only[Qr];omega)).trans ((Qt _ _ _ (by simp only[Qr];omega)).trans ((Qt _ _ _ (by simp only[Qr];omega)).trans ((Qt _ _ _ (by simp only[Qr];omega)).trans (zbo _ _ _ (by first|rfl|simp only[Qr]))))))
 have h2:F.heap[w.heap.size+1+1]? = some (.cells #[.int .i64 2,.int .i64 404] 44 (0,0)):=by rw[a];exact(Qt _ _ _ (by simp only[Qr];omega)).trans ((Qt _ _ _ (by simp only[Qr];omega)).trans ((Qt _ _ _ (by simp only[Qr];omega)).trans ((Qt _ _ _ (by simp only[Qr];omega)).trans (zbo _ _ _ (by first|rfl|simp only[Qr])))))
 have h:F.heap[w.heap.size+1+1+1]? = some (.cells #[.int .i64 6,.int .i64 0,.string (.mk #[])] 55 (0,0)):=by rw[a];exact(Qt _ _ _ (by simp only[Qr];omega)).trans ((Qt _ _ _ (by simp only[Qr];omega)).trans ((Qt _ _ _ (by simp only[Qr];omega)).trans (zbo _ _ _ (by first|rfl|simp only[Qr]))))
 have e:F.heap[w.heap.size+1+1+1+1]? = some (.cells #[.int .i64 1] 3 (0,0)):=by rw[a];exact(Qt _ _ _ (by simp only[Qr];omega)).trans ((Qt _ _ _ (by simp only[Qr];omega)).trans (zbo _ _ _ (by first|rfl|simp only[Qr])))
 have f:F.heap[w.heap.size+1+1+1+1+1]? = some (.cells #[.int .i64 3,.int .i64 10] 44 (0,0)):=by rw[a];exact(Qt _ _ _ (by simp only[Qr];omega)).trans (zbo _ _ _ (by first|rfl|simp only[Qr]))
 have d:F.heap[w.heap.size+1+1+1+1+1+1]? = some (.cells #[.int .i64 1,.int .i64 1,.slice (some ⟨w.heap.size+1,0,none⟩) 1 1,.slice none 0 0,.bool false,.int .i64 4,.string zeQ,.slice (some ⟨w.heap.size+1+1,0,none⟩) 1 1,.bool false,.int .i64 2,.int .i64 2,.slice (some ⟨w.heap.size+1+1+1,0,none⟩) 1 1,.slice (some ⟨w.heap.size+1+1+1+1,0,none⟩) 1 1,.bool false,.int .i64 2,.string zdD,.slice (some ⟨w.heap.size+1+1+1+1+1,0,none⟩) 1 1,.bool false] 42 (0,0)):=by rw[a];exact zbo _ _ _ (by first|rfl|simp only[Qr])
 have hb:Below w.heap.size w F:=by
  rw[a];exact((((((WaL.alloc (by simp) _).alloc (by simp;omega) _).alloc (by simp;omega) _).alloc (by simp;omega) _).alloc (by simp;omega) _).alloc (by simp;omega) _)
 refine⟨rfl,⟨zcL d (by omega) rfl,λx b=>?_,Qd _⟩,⟨by show 2<=1048576;decide,λx b=>?_⟩,hb,g⟩
 ·rcases QJ.1 b with rfl|b
  ·exact⟨zcL h1 (by omega) rfl,Sl.nil _ _ _ _,zcL h2 (by omega) rfl⟩
  ·rw[QE.1 b]
   exact⟨zcL h (by omega) rfl,zcL e (by omega) rfl,zcL f (by omega) rfl⟩
 ·rcases QJ.1 b with rfl|b
  ·exact⟨by show 1<=1048576;decide,λv c=>by rw[QE.1 c];show 0<=1048576;decide,by show 0<=1048576;decide,by show zeQ.size<=1048576;decide,by show 1<=1048576;decide⟩
  ·rw[QE.1 b]
   exact⟨by show 1<=1048576;decide,λv c=>by rw[QE.1 c];show 0<=1048576;decide,by show 1<=1048576;decide,by show zdD.size<=1048576;decide,by show 1<=1048576;decide⟩
theorem zj2(w:World):Calls Tryz.prog 8 #[] w λe w'=>∃a:RuArg,e=.returned a.value/\a.set=zaO/\RuLies w' w'.heap.size a/\zcx a/\Below w.heap.size w w':=by
 obtain⟨F,c⟩:∃F,F=(((((((w.alloc (.cells #[.int .i64 10,.int .i64 403,.slice (some ⟨w.heap.size+1+1+1+1+1+1,0,none⟩) 2 2] 24)).alloc (.cells #[.int .i64 3,.int .i64 0,.string (.mk #[])] 55)).alloc (.cells #[.int .i64 2,.int .i64 404] 44)).alloc (.cells #[.int .i64 6,.int .i64 0,.string (.mk #[])] 55)).alloc (.cells #[.int .i64 1] 3)).alloc (.cells #[.int .i64 3,.int .i64 10] 44)).alloc (.cells #[.int .i64 1,.int .i64 1,.slice (some ⟨w.heap.size+1,0,none⟩) 1 1,.slice none 0 0,.bool false,.int .i64 4,.string zeQ,.slice (some ⟨w.heap.size+1+1,0,none⟩) 1 1,.bool false,.int .i64 2,.int .i64 2,.slice (some ⟨w.heap.size+1+1+1,0,none⟩) 1 1,.slice (some ⟨w.heap.size+1+1+1+1,0,none⟩) 1 1,.bool false,.int .i64 2,.string zdD,.slice (some ⟨w.heap.size+1+1+1+1+1,0,none⟩) 1 1,.bool false] 42)):=⟨_,rfl⟩
 have b:=hIx (zn1 w F c);have d:=hIx c;clear c;unfold zeQ zdD at d
 go_in
 go_wp2_with fail;rw[<-d.out];exact Qj (v:=.agg #[.int .i64 10,.int .i64 403,.slice (some ⟨w.heap.size+1+1+1+1+1+1,0,none⟩) 2 2]) (by simp[results,Tryz.results8,go_sem,b.out.2.2.2.2.cell.1,b.out.2.2.2.2.cell.2.1,b.out.2.2.2.2.cell.2.2]) rfl ⟨(⟨10,403,some ⟨w.heap.size+1+1+1+1+1+1,0,none⟩,2,[⟨⟨1,1,[⟨3,0,ByteArray.mk #[]⟩],[],false,4,zeQ,[⟨2,404⟩],false⟩,some ⟨w.heap.size+1,0,none⟩,1,none,0,some ⟨w.heap.size+1+1,0,none⟩,1⟩,⟨⟨2,2,[⟨6,0,ByteArray.mk #[]⟩],[1],false,2,zdD,[⟨3,10⟩],false⟩,some ⟨w.heap.size+1+1+1,0,none⟩,1,some ⟨w.heap.size+1+1+1+1,0,none⟩,1,some ⟨w.heap.size+1+1+1+1+1,0,none⟩,1⟩]⟩:RuArg),rfl,b.out.1,b.out.2.1,b.out.2.2.1,b.out.2.2.2.1⟩
theorem zp0(hit:Int->zai->Bool)(a:Int)(l:List zai)(s:RunS)(c:Adds l):ziZ s (l.filter (λr=>r.phase==a)) (zaV hit a l s,[]):=by
 have h:=zoM hit a {s with sk:=0} l [] ({s with sk:=0},[]) ⟨Zw _,List.Sublist.refl _,.inl rfl,λ_ h=>h,λr b=>(by cases b),λ_=>⟨rfl,rfl⟩,λh=>h,λh=>h⟩ c;rw[Xa]at h;have d:=zkg (l:=(l.foldl (phS hit a) ({s with sk:=0},[])).2) λr b=>c r (ZB.1 (h.sub r b)).1
 refine⟨?_,?_,h.who,h.keep,λr b=>(by cases b),h.deny,h.lo,h.hi⟩
 ·have:=h.sc
  show (l.foldl (phS hit a) ({s with sk:=0},[])).1.sc+0<=_
  dsimp only at this ⊢;omega
 ·show ((l.foldl (phS hit a) ({s with sk:=0},[])).1.mt++[]).Sublist _
  rw[QI];exact(List.sublist_append_left _ _).trans h.mt
theorem zhU:∀l:List zai,Adds l->(∀r∈l,r.phase=1\/r.phase=2)->zaK (l.filter (λr=>r.phase==1))+zaK (l.filter (λr=>r.phase==2))=zaK l
 | [],_,_=>rfl
 |r::l,g,f=>by
  have ih:=zhU l (λx d=>g x (Q3 _ d)) λx d=>f x (Q3 _ d)
  have e:zaK (r::l)=zeX r+zaK l:=rfl
  rcases f r Q7 with h|h
  ·have a:(r::l).filter (λr=>r.phase==1)=r::l.filter (λr=>r.phase==1):=by rw[List.filter_cons,Qi (by simp[h])]
   have c:(r::l).filter (λr=>r.phase==2)=l.filter (λr=>r.phase==2):=by rw[List.filter_cons,Qe (by simp[h])]
   have b:zaK (r::l.filter (λr=>r.phase==1))=zeX r+zaK (l.filter (λr=>r.phase==1)):=rfl;rw[a,c,e,b];omega
  ·have a:(r::l).filter (λr=>r.phase==1)=l.filter (λr=>r.phase==1):=by rw[List.filter_cons,Qe (by simp[h])]
   have c:(r::l).filter (λr=>r.phase==2)=r::l.filter (λr=>r.phase==2):=by rw[List.filter_cons,Qi (by simp[h])]
   have b:zaK (r::l.filter (λr=>r.phase==2))=zeX r+zaK (l.filter (λr=>r.phase==2)):=rfl;rw[a,c,e,b];omega
theorem zh9:∀l:List zai,(l.map (·.id)).Nodup->(((l.filter (λr=>r.phase==1)).map (·.id))++((l.filter (λr=>r.phase==2)).map (·.id))).Nodup
 | [],_=>List.nodup_nil
 |r::l,h=>by
  rw[QX,ZP]at h;have ih:=zh9 l h.2
  have b:∀f:Int,r.id ∉ (l.filter (λr=>r.phase==f)).map (·.id):=λf a=>by
   obtain⟨y,g,e⟩:=QO.1 a;exact h.1 (QO.2 ⟨y,(ZB.1 g).1,e⟩)
  by_cases h1:r.phase=1
  ·have d:(r::l).filter (λr=>r.phase==1)=r::l.filter (λr=>r.phase==1):=by rw[List.filter_cons,Qi (by simp[h1])]
   have c:(r::l).filter (λr=>r.phase==2)=l.filter (λr=>r.phase==2):=by rw[List.filter_cons,Qe (by simp[h1])]
   rw[d,c,QX,ZS,ZP];exact⟨λa=>by rcases QN.1 a with a|a;exact b 1 a;exact b 2 a,ih⟩
  ·have d:(r::l).filter (λr=>r.phase==1)=l.filter (λr=>r.phase==1):=by rw[List.filter_cons,Qe (by simp[h1])]
   rw[d]
   by_cases h2:r.phase=2
   ·have c:(r::l).filter (λr=>r.phase==2)=r::l.filter (λr=>r.phase==2):=by rw[List.filter_cons,Qi (by simp[h2])]
    rw[c,QX];refine(List.perm_middle.nodup_iff).2 ?_;rw[ZP];exact⟨λa=>by rcases QN.1 a with a|a;exact b 1 a;exact b 2 a,ih⟩
   ·have c:(r::l).filter (λr=>r.phase==2)=l.filter (λr=>r.phase==2):=by rw[List.filter_cons,Qe (by simp[h2])]
    rw[c];exact ih
structure zAz(r:zd4)(v:RunS):Prop where
 sc:v.sc<=zaK r.list
 lo:0<=v.sc
 hi:v.sc<=1000000
 who:v.who=0\/v.who∈v.mt
 deny:zfq r.list->v.who=0/\(zaK r.list<r.most->v.st=0)
 nodup:v.mt.Nodup
 ids:∀x∈v.mt,∃y∈r.list,y.id=x
theorem zzA(hit:Int->zai->Bool)(r:zd4)(m:Adds r.list)(u:∀x∈r.list,x.phase=1\/x.phase=2)(w:(r.list.map (·.id)).Nodup):zAz r (runS hit r):=by
 have h1:=zp0 hit 1 r.list run0 m;have h2:=zp0 hit 2 r.list (zaV hit 1 r.list run0) m;have A:=zhU r.list m u;have s:=h1.sc;have p:=h2.sc;rw[zkK]at s p;have z:run0.sc=0:=rfl
 have v:((zaV hit 1 r.list run0).mt).Sublist ((r.list.filter (λr=>r.phase==1)).map (·.id)):=by
  have:=h1.mt;rw[ZE,QI]at this;exact this
 have o:((zaV hit 2 r.list (zaV hit 1 r.list run0)).mt).Sublist (((r.list.filter (λr=>r.phase==1)).map (·.id))++((r.list.filter (λr=>r.phase==2)).map (·.id))):=by
  have:=h2.mt;rw[ZE,QI]at this;exact this.trans (List.Sublist.append v (List.Sublist.refl _))
 have j:(zaV hit 2 r.list (zaV hit 1 r.list run0)).sc<=zaK r.list:=by dsimp only at s p;omega
 have i:=h2.lo (h1.lo (Zw 0));have f:=h2.hi (h1.hi (by decide))
 have c:(zaV hit 2 r.list (zaV hit 1 r.list run0)).who=0\/(zaV hit 2 r.list (zaV hit 1 r.list run0)).who∈(zaV hit 2 r.list (zaV hit 1 r.list run0)).mt:=by
  rcases h2.who with w2|w2
  ·rcases h1.who with l|l
   ·exact .inl (w2.trans l)
   ·exact .inr (h2.keep _ (by rw[show (zaV hit 2 r.list (zaV hit 1 r.list run0)).who=(zaV hit 1 r.list run0).who from w2];exact l))
  ·exact .inr w2
 have a:zfq r.list->(zaV hit 2 r.list (zaV hit 1 r.list run0)).who=0/\(zaV hit 2 r.list (zaV hit 1 r.list run0)).st=0:=λd=>by
  have q:=h1.deny λy g=>d y (ZB.1 g).1
  have n:=h2.deny λy g=>d y (ZB.1 g).1
  exact⟨n.1.trans q.1,n.2.trans q.2⟩
 have b:∀x∈(zaV hit 2 r.list (zaV hit 1 r.list run0)).mt,∃y∈r.list,y.id=x:=λx k=>by
  rcases QN.1 (o.subset k)with k|k
  all_goals
   obtain⟨y,g,e⟩:=QO.1 k;exact⟨y,(ZB.1 g).1,e⟩
 have h:=o.nodup (zh9 r.list w);unfold runS endS
 split
 ·rename_i B
  exact⟨j,i,f,c,λd=>⟨(a d).1,λt=>by omega⟩,h,b⟩
 ·exact⟨j,i,f,c,λd=>⟨(a d).1,λ_=>(a d).2⟩,h,b⟩
theorem zjR{argC:Int->ByteArray->Int}{r:zd4}(h:zaZ argC r=0):Adds r.list:=λx d a c=>by
 have h1:=((zec h).2 x d).acts a c;unfold actC at h1;unfold zbB
 split
 ·rename_i b
  split at h1
  ·cases h1
  ·rename_i e
   have:loA a.k=1:=by unfold loA;rw[b];rfl
   omega
 ·exact Zw 0
theorem zjg{argC:Int->ByteArray->Int}{r:zd4}(h:zaZ argC r=0):∀x∈r.list,x.phase=1\/x.phase=2:=λx a=>by
 have h1:=(zec h).2 x a;have:=h1.ph1;have:=h1.ph2;omega
section
open Go.ChangeShapes Go.WideShapes Go.Deep
theorem znM:Tryz.prog.cellsOf 29=4:=by kernel_rfl
theorem zjq:Tryz.prog.cellsOf 25=1:=by kernel_rfl
structure RqV where
 m:ByteArray
 t:ByteArray
 A:Option Addr
 c:Nat
 fs:List (ByteArray × ByteArray)
 b:ByteArray
structure zp9(W:World)(v:Value)(a:RqV):Prop where
 val:v=.agg #[.string a.m,.string a.t,.slice a.A a.fs.length a.c,.string a.b]
 sl:Sl W W.heap.size 2 a.A a.fs.length (zd1 a.fs)
 sizes:∀f∈a.fs,f.1.size<=maxLen/\f.2.size<=maxLen
 msize:a.m.size<=maxLen
 tsize:a.t.size<=maxLen
 bsize:a.b.size<=maxLen
def zpn{H:Type}(a:RqV)(d:DataW H):Prop:=
 ∃y:DataW H,d=.agg [.agg [.lit (.string a.m.data.toList),.lit (.string a.t.data.toList),y],.lit (.string a.b.data.toList)]/\((y=.nil/\a.fs=[])\/∃sp,y=.slice (a.fs.map zeY) sp)
theorem zgV{H:Type}{enc:TypeId × Value->H}{W:World}{base C:Nat}{r:Reach}{b:Nat->Bool}{e:Bool}{v:Value}{d:DataW H}{p:List MemPlace}
 (O:Value.okWide Tryz.prog W r C 29 v) (h:DataW.Trod enc Tryz.prog W base b e 29 v d p):
 ∃a,zp9 W v a/\zpn a d:=by
 obtain⟨cs,rfl,k⟩:=okWide_struct Tryz.underlying29 O;obtain⟨c0,c1,c2,c3,rfl⟩:=Joins.array4 (k.trans znM);obtain⟨w,E⟩:=h;obtain⟨V,S,n,L,_,q,h1⟩:=trod_struct2 Tryz.underlying29 E;rw[znm]at q;rw[ze2]at h1;obtain⟨U,T,B,Q,f,_,t,u,s⟩:=trod_struct3 Tryz.underlying27 q;rw[ze2]at t u;rw[zjq]at s;obtain⟨D,g,x,G⟩:=DataW.trod_string Tryz.underlying9 t;obtain⟨I,l,P,y⟩:=DataW.trod_string Tryz.underlying9 u;obtain⟨A,c,J,j,K,i,F⟩:=zoN s;obtain⟨N,m,z,w3⟩:=DataW.trod_string Tryz.underlying9 h1;injection g with g _
 injection l with l _
 injection j with j _
 injection m with m _
 subst g;subst l;subst j;subst m;subst x;subst P;subst z
 have o:=Zt Prod.fst L;dsimp only at o;subst f;exact⟨⟨D,I,A,c,J,N⟩,⟨rfl,i,K,G,y,w3⟩,B.1,o,F⟩
structure ziL(a:RqV):Prop where
 m:a.m.size<=1048576
 t:a.t.size<=1048576
 b:a.b.size<=1048576
 n:a.fs.length<=1048576
theorem zl1{H:Type}{a:RqV}{d:DataW H}(h:zpn a d)(hb:Rows.uptoBulk d<=1048576):ziL a:=by
 obtain⟨y,rfl,c⟩:=h;simp only[Rows.uptoBulk,Rows.uptoBulkAll,Zi]at hb;refine⟨?_,?_,?_,?_⟩
 ·have:a.m.data.size=a.m.size:=rfl
  omega
 ·have:a.t.data.size=a.t.size:=rfl
  omega
 ·have:a.b.data.size=a.b.size:=rfl
  omega
 ·rcases c with ⟨_,h⟩|⟨sp,rfl⟩
  ·rw[h];exact Qm _
  ·have:=zdk (l:=(a.fs.map zeY:List (DataW H))) (sp:=sp)
   rw[Qh]at this;omega
end
def zlb:zai:=⟨1,1,[⟨3,0,ByteArray.mk #[]⟩],[],false,4,zeQ,[⟨2,404⟩],false⟩
def zhc:zai:=⟨2,2,[⟨6,0,ByteArray.mk #[]⟩],[1],false,2,zdD,[⟨3,10⟩],false⟩
theorem Sl.icells{w:World}{B n:Nat}{A:Option Addr}{c:List Int}(h:Sl w B 1 A n (c.map (Value.int .i64)))(g:0<n):
 ∃b a,A=some ⟨b,a,none⟩/\c.length=n/\∀j,j<c.length->w.cell? ⟨b,a+j,none⟩=some (.int .i64 (c.getD j 0)):=by
 have hl:=h.len;rw[Qh]at hl;obtain⟨b,a,e,_,f⟩:=h.src (by rw[Qh];omega);refine⟨b,a,e,by omega,λj d=>?_⟩;rw[f j (by rw[Qh];exact d),Zd,Qk,Qc d]
 rfl
theorem Sl.izero{w:World}{B:Nat}{A:Option Addr}{a:List Int}(h:Sl w B 1 A 0 (a.map (Value.int .i64))):a=[]:=
 QA (by have:=h.len;rw[Qh]at this;omega)
theorem zqz{w:World}{B x n m:Nat}{A l:Option Addr}{j k:List Int}(c d:Nat)(h:Sl w B 1 A n (j.map (Value.int .i64)))(h2:Sl w x 1 l m (k.map (Value.int .i64)))(g:n<=9223372036854775807)(a:m<=9223372036854775807):
 Calls Tryz.prog 30 #[.slice A n c,.slice l m d] w λe w'=>e=.returned (.bool (j==k))/\∃q,w'=w.drewN q:=by
 have u:=h.len;have v:=h2.len;rw[Qh]at u v
 by_cases i:n=m
 ·subst i
  rcases ZO n with rfl|r
  ·rw[h.izero,h2.izero]
   exact(Tryz.slices_Equal_int_empty A l c 0 d w (by decide)).mono λe w' ⟨h1,h2⟩=>⟨h1.trans (by simp),0,h2⟩
  ·obtain⟨b,o,rfl,z,y⟩:=h.icells r
   obtain⟨t,f,rfl,s,p⟩:=h2.icells r;have:=Tryz.slices_Equal_int b o n c t f n d j k w (by omega) (by omega) g a y p;rw[QC (by omega),QC (by omega)]at this;exact this
 ·refine(Tryz.slices_Equal_int_lens A l n c m d w i).mono λe w' ⟨h1,h2⟩=>⟨h1.trans ?_,0,h2⟩
  have:¬j=k:=λe=>by subst e;omega
  simp[this]
def aT:ByteArray:=ByteArray.mk #[47,63,97,61,68,114,111,112]
def aL:List Pair:=[(ByteArray.mk #[97],ByteArray.mk #[68,114,111,112])]
theorem zvA:ofP aT [] (ByteArray.mk #[]) 40=(0,aL,[]):=by decide+kernel
theorem zqC:isR zlb (ByteArray.mk #[]) aT (ByteArray.mk #[]) [] 0 0 aL []=false:=by
 have h:tstO 4 zeQ=tstT 4 zeQ:=by funext v;unfold tstO;rfl
 unfold isR;show (allP _ _ _).any (hitX [] false (tstO 4 zeQ))=false
 rw[h]
 decide+kernel
theorem zqK:isR zhc (ByteArray.mk #[]) aT (ByteArray.mk #[]) [] 0 0 aL []=true:=by
 have h:tstO 2 zdD=tstP (phrW zdD):=by funext v;unfold tstO;rfl
 have h2:phrW zdD=[⟨#[100,114,111,112]⟩,⟨#[115,101,108,101,99,116]⟩]:=by unfold phrW;rw[zis];rfl
 unfold isR;show (allP _ _ _).any (hitX [1] false (tstO 2 zdD))=true
 rw[h,h2]
 decide+kernel
theorem zyY(hit:Int->zai->Bool)(h1:hit 0 zlb=false)(h2:hit 0 zhc=true):(runS hit zaO).st=403/\(runS hit zaO).sc=10:=by
 have h:zc5 hit run0 [zlb]=run0:=by
  unfold zc5;rw[Qe (by decide),Qe (by decide),Qe (by show ¬([zlb].all (hit 0))=true;simp[h1])]
 have e:zc5 hit run0 [zhc]=doS run0 [zhc]:=by
  unfold zc5;rw[Qe (by decide),Qe (by decide),Qi (by show ([zhc].all (hit 0))=true;simp[h2])]
 have c:phS hit 1 (run0,[]) zlb=(run0,[]):=by
  unfold phS;rw[Qe (by decide),Qe (by decide)];show (zc5 hit run0 [zlb],([]:List zai))=_
  rw[h]
 have f:phS hit 1 (run0,[]) zhc=(run0,[]):=by
  unfold phS;rw[Qi (by decide)]
 have a:phS hit 2 (run0,[]) zlb=(run0,[]):=by
  unfold phS;rw[Qi (by decide)]
 have b:phS hit 2 (run0,[]) zhc=(doS run0 [zhc],[]):=by
  unfold phS;rw[Qe (by decide),Qe (by decide)];show (zc5 hit run0 [zhc],([]:List zai))=_
  rw[e]
 have d:zaV hit 1 zaO.list run0=run0:=by
  show ((phS hit 1 (phS hit 1 (run0,[]) zlb) zhc)).1=run0
  rw[c,f]
 have g:zaV hit 2 zaO.list run0=doS run0 [zhc]:=by
  show ((phS hit 2 (phS hit 2 (run0,[]) zlb) zhc)).1=_
  rw[a,b]
 unfold runS;rw[d,g];exact⟨rfl,rfl⟩
theorem znb:(runG zaO (ByteArray.mk #[]) aT (ByteArray.mk #[]) [] 0 40).1=0/\(runG zaO (ByteArray.mk #[]) aT (ByteArray.mk #[]) [] 0 40).2.st=403/\(runG zaO (ByteArray.mk #[]) aT (ByteArray.mk #[]) [] 0 40).2.sc=10:=by
 have h:runG zaO (ByteArray.mk #[]) aT (ByteArray.mk #[]) [] 0 40=(0,runS (λa x=>isR x (ByteArray.mk #[]) aT (ByteArray.mk #[]) [] 0 a aL []) zaO):=by
  unfold runG;rw[zvA,Qe (by rw[zl3];decide),Qe (by decide)]
 rw[h];exact⟨rfl,zyY _ zqC zqK⟩
theorem zi4(a b c o k j:Int)(A p:Option Addr)(n i m r:Nat)(t x:List Int)(w:World)(h:Sl w w.heap.size 1 A n (t.map (Value.int .i64)))(h2:Sl w w.heap.size 1 p m (x.map (Value.int .i64)))(K:n<=1048576)(L:m<=1048576):
 Calls Tryz.prog 9 #[.agg #[.int .i64 a,.int .i64 b,.int .i64 c,.slice A n i],.agg #[.int .i64 o,.int .i64 k,.int .i64 j,.slice p m r]] w (zal (a==o&&(b==k&&(c==j&&t==x))) w):=by
 have l:Hid (∀W,Below w.heap.size w W->Calls Tryz.prog 30 #[.slice A n i,.slice p m r] W λe w'=>e=.returned (.bool (t==x))/\Below W.heap.size W w'):=λW hb=>
  (zqz i r (h.below hb) (h2.below hb) (by omega) (by omega)).mono λe w' ⟨h1,q,h2⟩=>⟨h1,by rw[h2];exact⟨rfl,rfl,rfl,Qd _,λ_ _=>rfl⟩⟩
 obtain⟨g,f⟩:∃g,(w.alloc (.cells #[.int .i64 a,.int .i64 b,.int .i64 c,.slice A n i] 33)).alloc (.cells #[.int .i64 o,.int .i64 k,.int .i64 j,.slice p m r] 33)=g:=⟨_,rfl⟩
 have d:Below w.heap.size w g:=by rw[<-f];exact WaL.alloc (by simp) _
 have h1:V4 g w.heap.size a b c (.slice A n i):=by rw[<-f];exact(Qt _ _ _ (by simp)).trans (Qp w _)
 have z:V4 g (w.heap.size+1) o k j (.slice p m r):=by rw[<-f];exact zbo _ _ _ (by simp)
 have ⟨I,D,N,H⟩:=h1.four;have ⟨O,F,J,G⟩:=z.four;have C:=hIx (l.out g d);have u:=hIx f;clear f h h2 h1 z l
 go_in
 go_upto_region 1 with fail
 rw[u.out];cases s:a==o
 ·go_wp2
  go_ret;exact⟨by rw[s];simp,d⟩
 cases v:b==k
 ·go_wp2
  go_ret;exact⟨by rw[s,v];simp,d⟩
 cases B:c==j
 ·go_wp2
  go_ret;exact⟨by rw[s,v,B];simp,d⟩
 go_wp2_with (go_at_call 30;apply Hid.out);refine WhM C ?_;rintro e E ⟨rfl,y⟩;go_wp2;go_ret;exact⟨by rw[s,v,B];simp,d.trans (y.mono d.size)⟩
def zh6(l:List zbV):Bool:=l.any λa=>a.k==2
def zjC(l:List zai):Bool:=l.any λr=>zh6 r.acts
theorem zya{l:List zai}(h:zjC l=false):zfq l:=λr c a b e=>by
 have:=List.any_eq_false.1 h r c;exact this (Xq.2 ⟨a,b,by rw[e];rfl⟩)
structure zsh(a:RuArg)(S:RunS):Prop where
 acts:ActsOk (a.l.map RuM.r)
 len:a.l.length<=40
 sc:S.sc<=zaK (a.l.map RuM.r)
 deny:zjC (a.l.map RuM.r)=false->S.who=0/\(zaK (a.l.map RuM.r)<a.most->S.st=0)
 nodup:S.mt.Nodup
 ids:∀x∈S.mt,((a.l.map RuM.r).any λy=>y.id==x)=true
 who:S.who=0\/S.mt.contains S.who=true
 mt:S.mt.length<=40
theorem ztx:∀{l m:List Int},l.Nodup->(∀x∈l,x∈m)->l.length<=m.length
 | [],_,_,_=>Qm _
 |x::r,m,f,c=>by
  have d:=c x (Q7 ..);have a:=ZP.1 f;have:=ztx (l:=r) (m:=m.erase x) a.2 λy b=>(List.mem_erase_of_ne (λe=>a.1 (by rw[<-e];exact b))).2 (c y (Q3 _ b))
  rw[List.length_erase_of_mem d]at this;have:=List.length_pos_of_mem d;rw[Qo];omega
theorem zuH(a:RuArg)(m t b:ByteArray)(c:List zao)(k most:Nat)(h:(runG a.set m t b c k most).1=0):zsh a (runG a.set m t b c k most).2:=by
 unfold runG at *
 by_cases f:zaZ argC a.set=0
 rotate_left
 ·rw[Qi f]at h;exact absurd h f
 rw[Qe (λh=>h f)]at *
 by_cases o:(ofP t c b most).1=0
 rotate_left
 ·rw[Qi o]at h;exact absurd h o
 rw[Qe (λh=>h o)];have n:=zeg f;have d:=zzA (λp x=>isR x m t b c k p (ofP t c b most).2.1 (ofP t c b most).2.2) a.set (zjR f) (zjg f) n.nodup;generalize runS (λp x=>isR x m t b c k p (ofP t c b most).2.1 (ofP t c b most).2.2) a.set=S at *
 have g:∀x∈S.mt,((a.l.map RuM.r).any λy=>y.id==x)=true:=λx j=>by
  obtain⟨y,i,e⟩:=d.ids x j;exact Xq.2 ⟨y,i,by rw[e];exact beq_self_eq_true x⟩
 refine⟨λr j y i=>zh3 (((zec f).2 r j).acts y i),?_,d.sc,λq=>d.deny (zya q),d.nodup,g,d.who.imp_right λh=>List.contains_iff_mem.2 h,?_⟩
 ·have:=n.len
  rw[show a.set.list.length=a.l.length from Qh _]at this;exact this
 ·have h1:S.mt.length<=(a.set.list.map (·.id)).length:=ztx d.nodup λx j=>by
   obtain⟨y,i,e⟩:=d.ids x j;exact QO.2 ⟨y,i,e⟩
  have h2:=n.len;rw[Qh]at h1;exact Qn h1 h2
theorem zut(r:zd4)(m t b:ByteArray)(c:List zao)(a most:Nat)(h:(runG r m t b c a most).1≠0):(runG r m t b c a most).2=run0:=by
 unfold runG at *
 split
 ·rfl
 ·rename_i h1
  rw[Qe h1]at h
  split
  ·rfl
  ·rename_i h2
   rw[Qe h2]at h;exact absurd rfl h
def zte(a:World)(c d:Value)(b:World):Prop:=∃g who v,c=.pointer (some ⟨g,0,none⟩)/\d=.int .i64 0/\V4 b g 403 who 10 v/\Below a.heap.size a b
def ztK(w:World)(e:Ending)(w':World):Prop:=e=.returned (.bool true)/\Below w.heap.size w w'
theorem zpa{H:Type}:∀l:List zao,zjv l<=Rows.uptoBulkAll (l.map λf=>(zeY f:DataW H))/\l.length<=Rows.uptoBulkAll (l.map λf=>(zeY f:DataW H))
 | []=>⟨Qd _,Qd _⟩
 |x::l=>by
  have ih:=zpa (H:=H) l;have a:x.1.data.toList.length=x.1.size:=by simp
  have b:x.2.data.toList.length=x.2.size:=by simp
  rw[QX,Rows.uptoBulkAll,zeL,Qo];simp only[zeY,Rows.uptoBulk,Rows.uptoBulkAll,a,b];simp only[zeY]at ih;omega
structure znu(a:RqV):Prop where
 n:a.fs.length<=1048576
 sum:zjv a.fs<=1048576
theorem zk2{H:Type}{a:RqV}{d:DataW H}(h:zpn a d)(hb:Rows.uptoBulk d<=1048576):znu a:=by
 obtain⟨y,rfl,b⟩:=h;simp only[Rows.uptoBulk,Rows.uptoBulkAll]at hb
 rcases b with ⟨_,h⟩|⟨sp,rfl⟩
 ·exact⟨by rw[h];exact Qm _,by rw[h];exact Qm _⟩
 ·have:zjv a.fs<=Rows.uptoBulkAll (a.fs.map (zeY (H:=H)))/\a.fs.length<=Rows.uptoBulkAll (a.fs.map (zeY (H:=H))):=zpa a.fs
  simp only[Rows.uptoBulk]at hb;exact⟨by omega,by omega⟩
theorem zfK{H:Type}{a:RqV}{d:DataW H}(h:zpn a d)(hb:Rows.uptoBulk d<=1048576):ziL a/\znu a:=⟨zl1 h hb,zk2 h hb⟩
theorem zxm(a:RuArg)(q:RqV)(g:Nat)(w:World){i h:Value}(o:zfr w i a)(k:zcx a)(y:zp9 w h q)(d:ziL q/\znu q)(l:g<4294967296)(c:LibOk w)
 (j:Lib.TabIs Tryz.prog w "internal/strconv.uint64pow10" .u64 Lib.pow10Tab):RunIn a q.m q.t q.b q.fs q.A g 40 w:=
 ⟨o.lies,k,y.sl,λf e=>⟨(y.sizes f e).1,by have:=zmj f e;have:=d.2.sum;omega⟩,by have:=d.1.n;omega,by have:=d.1.t;omega,by have:=d.1.b;omega,by decide,l,c,TabOk.of j⟩
