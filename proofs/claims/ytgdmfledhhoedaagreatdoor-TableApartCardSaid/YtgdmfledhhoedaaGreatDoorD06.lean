/- Part 6 of 27. -/
import Derived.Test.YtgdmfledhhoedaaGreatDoorD05
import Derived.Maps.AppendAt
namespace Go.Burg
open Go Go.RowKit
def bytesL (L:List Kd):List Value:=L.map fun k=>.int .u8 k.b
def z2v (L:List Kd):List Value:=L.flatMap fun k=>[.int .i64 k.s,.int .u32 k.g]
theorem kidsL_len:∀ L:List Kd,(z2v L).length=L.length * 2
 | []=>rfl
 | k :: L=>by
  have:=kidsL_len L
  simp only[z2v,List.flatMap_cons,List.length_append,List.length_cons,List.length_nil] at this ⊢
  omega
theorem bytesL_get {L:List Kd} {i:Nat} {k:Kd} (h:L[i]?=some k):(bytesL L)[i]?=some (.int .u8 k.b):=by simp[bytesL,h]
theorem kidsL_get:∀ {L:List Kd} {i:Nat} {k:Kd},L[i]?=some k->(z2v L)[i * 2]?=some (.int .i64 k.s)/\(z2v L)[i * 2+1]?=some (.int .u32 k.g)
 | [],i,k,h=>by simp at h
 | a :: L,0,k,h=>by
  simp at h
  subst h
  exact⟨rfl,rfl⟩
 | a :: L,i+1,k,h=>by
  have:=kidsL_get (L:=L) (i:=i) (by simpa using h)
  rw[show (i+1) * 2=i * 2+2 by omega]
  simpa[z2v] using this
def Kd.ok (k:Kd):Prop:=(0<=k.b/\k.b<256)/\(0<=k.s/\k.s<4096)/\(1<=k.g/\k.g<=4294967295)
end Go.Burg
namespace Go.Proofs.YtgdmfledhhoedaaGreatDoor.O
set_option maxRecDepth 8000
open Go.ChangeShapes Go.WideShapes Go.ChangeAt Go.RowKit Go.Burg
structure NodeIn (w:World) (k:Nat) (pt:ByteArray) (ya:Option Addr) (yn yc:Nat) (za:Option Addr) (zn zc:Nat) (L:List Kd):Prop where
 b:w.ownsRow 0 5 1 (.slice ya yn yc) L.length (bytesL L)
 z:w.ownsRow 0 36 2 (.slice za zn zc) L.length (z2v L)
 k1:2<=k
 k2:k<=5
 p:pt.size<=34
 len:L.length<=z0v k
 rise:Rise L
 ok:∀ x∈L,x.ok
variable {xs:List Value} {c m n s:Nat} {e:TypeId} {w:World}
theorem own_same {w':World} {v:Value} (h:w.ownsRow 0 e s v n xs) (hb:Below w.heap.size w w'):w'.ownsRow 0 e s v n xs:=by
 obtain⟨h1,h2|⟨g,cap,cur,a,b,c,d⟩⟩:=h
 ·exact⟨h1,.inl h2⟩
 ·exact⟨h1,.inr ⟨g,cap,cur,a,b,(hb.block g (lt_of_block c)).trans c,d⟩⟩
variable {a:Option Addr}
theorem z1u (h:w.ownsRow 0 e s (.slice a m c) n xs):m=n:=by
 obtain⟨h1,⟨h2,rfl⟩|⟨g,cap,cur,a,_⟩⟩:=h
 ·simp at h2;exact h2.2.1
 ·simp at a;exact a.2.1
theorem z0z (h:w.ownsRow 0 e s (.slice a m c) n xs) (hn:0<n):∃ g,a=some ⟨g,0,none⟩/\g<w.heap.size/\∀ j v,xs[j]?=some v->w.cell? ⟨g,j,none⟩=some v:=by
 have h':=h
 obtain⟨h1,⟨_,h2⟩|⟨g,cap,cur,ha,hb,hc,hd⟩⟩:=h
 ·omega
 ·simp only[Value.slice.injEq] at ha
  obtain⟨rfl,rfl,rfl⟩:=ha
  refine⟨g,rfl,lt_of_block hc,fun j v hj=>?_⟩
  have:=h'.cellAt j (by rw[<- h1];exact (List.getElem?_eq_some_iff.1 hj).1)
  rw[this,hj]
section
variable {w w':World} {k:Nat} {pt:ByteArray} {ya za:Option Addr} {yn yc zn zc:Nat} {L:List Kd}
theorem NodeIn.keep (h:NodeIn w k pt ya yn yc za zn zc L) (hb:Below w.heap.size w w'):NodeIn w' k pt ya yn yc za zn zc L:=⟨own_same h.b hb,own_same h.z hb,h.k1,h.k2,h.p,h.len,h.rise,h.ok⟩
theorem NodeIn.alloc (h:NodeIn w k pt ya yn yc za zn zc L) (o:Obj):NodeIn (w.alloc o) k pt ya yn yc za zn zc L:=h.keep ((Below.refl _ _).alloc (Nat.le_refl _) _)
theorem NodeIn.room (h:NodeIn w k pt ya yn yc za zn zc L):L.length<=256:=by
 have h1:=h.k1
 have h2:=h.k2
 have h3:=h.len
 rcases (by omega:k=2\/k=3\/k=4\/k=5) with rfl|rfl|rfl|rfl<;>(simp[z0v] at h3;omega)
theorem rising_at (h:NodeIn w k pt ya yn yc za zn zc L):Calls Tryz.prog 131 #[(.agg #[.int .i64 k,.string ⟨#[]⟩,.string ⟨#[]⟩,.string pt,.slice ya yn yc,.slice za zn zc])] w fun e w'=>e=.returned (.bool true)/\Below w.heap.size w w':=by
 have hA:=h.alloc (.cells #[.int .i64 k,.string ⟨#[]⟩,.string ⟨#[]⟩,.string pt,.slice ya yn yc,.slice za zn zc] 165 (0,0))
 have hN:=z0a w (.cells #[.int .i64 k,.string ⟨#[]⟩,.string ⟨#[]⟩,.string pt,.slice ya yn yc,.slice za zn zc] 165 (0,0))
 have HYN:Hid (yn=L.length):=hid (z1u h.b)
 have hyl:yn<=256:=by rw[HYN.out];exact h.room
 have hB:Below w.heap.size w (w.alloc (.cells #[.int .i64 k,.string ⟨#[]⟩,.string ⟨#[]⟩,.string pt,.slice ya yn yc,.slice za zn zc] 165 (0,0))):=(Below.refl _ _).alloc (Nat.le_refl _) _
 have hR:=h.rise
 go_enter Tryz.func131,Tryz.ntmps131
 go_wp2_with fail
 clear h
 generalize hW:w.alloc (.cells #[.int .i64 k,.string ⟨#[]⟩,.string ⟨#[]⟩,.string pt,.slice ya yn yc,.slice za zn zc] 165 (0,0))=W at *
 generalize hu:w.heap.size=u at *
 have HA:=hid hA
 have HN:=hid hN
 have HU:=hid hu
 have HB:=hid hB
 have HR:=hid hR
 clear hW hA hN hu hB hR
 go_loopw [3] (fun iv wr=>∃ j:Nat,1<=j/\j<=yn+1/\iv=.int .i64 j/\Below W.heap.size W wr) (fun iv _=>yn+1 - (intOf iv).toNat)
 case atStart=>exact⟨1,Nat.le_refl _,by omega,rfl,Below.refl _ _⟩
 case round =>
  obtain⟨j,h1,hj,rfl,hb⟩:=hrel
  have hk:=(hb.block u (lt_of_block HN.out)).trans HN.out
  have c4:=cell_of hk 4
  have HK:=hid hk
  have HBB:=hid hb
  clear hk hb
  by_cases hlt:j<yn
  ·obtain⟨g,rfl,hgl,hg⟩:=z0z HA.out.b (by rw[<- HYN.out];omega)
   have i1:j<L.length:=by have:=HYN.out;omega
   have i2:j - 1<L.length:=by omega
   have hx:L[j]?=some L[j]:=List.getElem?_eq_getElem _
   have hy:L[j - 1]?=some L[j - 1]:=List.getElem?_eq_getElem _
   have hlt2:L[j - 1].b<L[j].b:=List.pairwise_iff_getElem.1 HR.out _ _ i2 i1 (by omega)
   generalize L[j]=x at hx hlt2
   generalize L[j - 1]=y at hy hlt2
   clear i1 i2
   have q0:wr.cell? ⟨g,j,none⟩=some (.int .u8 x.b):=(World.cell?_of_block (w:=W) (HBB.out.block g hgl)).trans (hg _ _ (bytesL_get hx))
   have q1:wr.cell? ⟨g,j - 1,none⟩=some (.int .u8 y.b):=(World.cell?_of_block (w:=W) (HBB.out.block g hgl)).trans (hg _ _ (bytesL_get hy))
   have d0:decide (yn<=j)=false:=by simp;omega
   have d1:decide (yn<=j - 1)=false:=by simp;omega
   have d2:decide (x.b<=y.b)=false:=by simp;omega
   have ej:((j:Int) - 1)=((j - 1:Nat):Int):=by omega
   clear hx hy hlt2 hg
   go_wp2_with fail
   go_quiet (fail)
   go_wp2_with fail
   go_roundw
   case rel=>exact⟨j+1,by omega,by omega,by go_num,⟨HBB.out.os,HBB.out.tape,HBB.out.output,HBB.out.size,HBB.out.block⟩⟩
   case measure=>simp[intOf];omega
  ·go_wp2_with fail
   go_ret
   refine⟨rfl,?_⟩
   rw[HU.out]
   exact HB.out.trans (HBB.out.mono (by have:=HB.out.size;have:=HU.out;omega))
theorem refs1_at (s g:Int) (w:World) (h1:0<=s/\s<4096) (h2:1<=g):Calls Tryz.prog 135 #[.agg #[.int .i64 s,.int .u32 g]] w fun e w'=>e=.returned (.bool false)/\Below w.heap.size w w':=by
 have HK:=hid (kid_at s g (w.alloc (.cells #[.int .i64 s,.int .u32 g] 36 (0,0))) h1 h2)
 have HB:Hid (Below w.heap.size w (w.alloc (.cells #[.int .i64 s,.int .u32 g] 36 (0,0)))):=hid ((Below.refl _ _).alloc (Nat.le_refl _) _)
 go_enter Tryz.func135,Tryz.ntmps135
 go_wp2_with (go_at_call 74;refine HK.out.mono ?_;rintro e w2 ⟨rfl,hB2⟩;have HB2:=hid hB2;clear hB2)
 go_ret
 exact⟨rfl,HB.out.trans (HB2.out.mono HB.out.size)⟩
theorem rIdx_at (h:NodeIn w k pt ya yn yc za zn zc L):Calls Tryz.prog 136 #[.slice za zn zc,.func (.func 135) #[] #[]] w fun e w'=>e=.returned (.int .i64 (-1))/\Below w.heap.size w w':=by
 have HZN:Hid (zn=L.length):=hid (z1u h.z)
 have hzl:zn<=256:=by rw[HZN.out];exact h.room
 have HA:=hid h
 clear h
 go_enter Tryz.func136,Tryz.ntmps136
 go_wp2_with fail
 go_loopw [8] (fun iv wr=>∃ j:Nat,j<=zn/\iv=.int .i64 j/\Below w.heap.size w wr) (fun iv _=>zn - (intOf iv).toNat)
 case atStart=>exact⟨0,Nat.zero_le _,rfl,Below.refl _ _⟩
 case round =>
  obtain⟨j,hj,rfl,hb⟩:=hrel
  have HBB:=hid hb
  clear hb
  by_cases hlt:j<zn
  ·obtain⟨g,rfl,hgl,hg⟩:=z0z HA.out.z (by rw[<- HZN.out];omega)
   have i1:j<L.length:=by have:=HZN.out;omega
   have hx:L[j]?=some L[j]:=List.getElem?_eq_getElem _
   have hok:=HA.out.ok L[j] (List.getElem_mem _)
   generalize L[j]=x at hx hok
   have q0:wr.cell? ⟨g,j * 2,none⟩=some (.int .i64 x.s):=(World.cell?_of_block (w:=w) (HBB.out.block g hgl)).trans (hg _ _ (kidsL_get hx).1)
   have q1:wr.cell? ⟨g,j * 2+1,none⟩=some (.int .u32 x.g):=(World.cell?_of_block (w:=w) (HBB.out.block g hgl)).trans (hg _ _ (kidsL_get hx).2)
   have d0:decide (zn<=j)=false:=by simp;omega
   have HR:=hid (refs1_at x.s x.g wr hok.2.1 hok.2.2.1)
   clear hx hok hg i1
   go_wp2_with (go_at_call 135;refine HR.out.mono ?_;rintro e w2 ⟨rfl,hB2⟩;have HB2:=hid hB2;clear hB2)
   go_roundw
   case rel=>exact⟨j+1,by omega,by go_num,z0d HBB.out HB2.out HBB.out.size⟩
   case measure=>simp[intOf];omega
  ·go_wp2_with fail
   go_ret
   exact⟨rfl,HBB.out⟩
theorem refs_at (h:NodeIn w k pt ya yn yc za zn zc L):Calls Tryz.prog 132 #[(.agg #[.int .i64 k,.string ⟨#[]⟩,.string ⟨#[]⟩,.string pt,.slice ya yn yc,.slice za zn zc])] w fun e w'=>e=.returned (.bool true)/\Below w.heap.size w w':=by
 have HI:=hid (rIdx_at (h.alloc (.cells #[.int .i64 k,.string ⟨#[]⟩,.string ⟨#[]⟩,.string pt,.slice ya yn yc,.slice za zn zc] 165 (0,0))))
 have HC:Hid (Calls Tryz.prog 134 #[.slice za zn zc,.func (.func 135) #[] #[]] (w.alloc (.cells #[.int .i64 k,.string ⟨#[]⟩,.string ⟨#[]⟩,.string pt,.slice ya yn yc,.slice za zn zc] 165 (0,0))) fun e w'=>e=.returned (.bool false)/\Below (w.alloc (.cells #[.int .i64 k,.string ⟨#[]⟩,.string ⟨#[]⟩,.string pt,.slice ya yn yc,.slice za zn zc] 165 (0,0))).heap.size (w.alloc (.cells #[.int .i64 k,.string ⟨#[]⟩,.string ⟨#[]⟩,.string pt,.slice ya yn yc,.slice za zn zc] 165 (0,0))) w'):=hid (by
  clear h
  go_enter Tryz.func134,Tryz.ntmps134
  go_wp2_with (go_at_call 136;refine HI.out.mono ?_;rintro e w2 ⟨rfl,hB2⟩;have HB2:=hid hB2;clear hB2)
  go_ret
  exact⟨rfl,HB2.out⟩)
 have HB:Hid (Below w.heap.size w (w.alloc (.cells #[.int .i64 k,.string ⟨#[]⟩,.string ⟨#[]⟩,.string pt,.slice ya yn yc,.slice za zn zc] 165 (0,0)))):=hid ((Below.refl _ _).alloc (Nat.le_refl _) _)
 clear h HI
 go_enter Tryz.func132,Tryz.ntmps132
 go_wp2_with (go_at_call 134;refine HC.out.mono ?_;rintro e w2 ⟨rfl,hB2⟩;have HB2:=hid hB2;clear hB2)
 go_ret
 exact⟨rfl,HB.out.trans (HB2.out.mono HB.out.size)⟩
theorem rowIn_new (w:World) (nv:Value) (fs:List Nat):RowIn 46 (w.alloc (.cells (testsL nv fs).toArray 46 (0,0))) w.heap.size (testsL nv fs):=⟨_,z0a _ _,fun _ _=>List.getElem?_toArray⟩
set_option maxHeartbeats 1000000 in
theorem isInner_at (h:NodeIn w k pt ya yn yc za zn zc L) (hr:RoomsAt w):Calls Tryz.prog 117 #[(.agg #[.int .i64 k,.string ⟨#[]⟩,.string ⟨#[]⟩,.string pt,.slice ya yn yc,.slice za zn zc])] w fun e w'=>e=.returned (.bool true)/\Below w.heap.size w w':=by
 have hmf:=makeF Tryz.prog
 have hs1:(w.alloc (.cells #[.int .i64 k,.string ⟨#[]⟩,.string ⟨#[]⟩,.string pt,.slice ya yn yc,.slice za zn zc] 165 (0,0))).heap.size=w.heap.size+1:=by simp
 have hB:Below w.heap.size w ((w.alloc (.cells #[.int .i64 k,.string ⟨#[]⟩,.string ⟨#[]⟩,.string pt,.slice ya yn yc,.slice za zn zc] 165 (0,0))).alloc (.cells #[.func (.func 128) #[(.agg #[.int .i64 k,.string ⟨#[]⟩,.string ⟨#[]⟩,.string pt,.slice ya yn yc,.slice za zn zc])] #[],.func (.func 129) #[(.agg #[.int .i64 k,.string ⟨#[]⟩,.string ⟨#[]⟩,.string pt,.slice ya yn yc,.slice za zn zc])] #[],.func (.func 130) #[(.agg #[.int .i64 k,.string ⟨#[]⟩,.string ⟨#[]⟩,.string pt,.slice ya yn yc,.slice za zn zc])] #[],.func (.func 131) #[(.agg #[.int .i64 k,.string ⟨#[]⟩,.string ⟨#[]⟩,.string pt,.slice ya yn yc,.slice za zn zc])] #[],.func (.func 132) #[(.agg #[.int .i64 k,.string ⟨#[]⟩,.string ⟨#[]⟩,.string pt,.slice ya yn yc,.slice za zn zc])] #[]] 46 (0,0))):=((Below.refl _ _).alloc (Nat.le_refl _) _).alloc (by simp) _
 have hN:=rowIn_new (w.alloc (.cells #[.int .i64 k,.string ⟨#[]⟩,.string ⟨#[]⟩,.string pt,.slice ya yn yc,.slice za zn zc] 165 (0,0))) (.agg #[.int .i64 k,.string ⟨#[]⟩,.string ⟨#[]⟩,.string pt,.slice ya yn yc,.slice za zn zc]) [128,129,130,131,132]
 have hk:=h.k2
 have hk1:=h.k1
 have hp:=h.p
 have hyz:yn=zn:=(z1u h.b).trans (z1u h.z).symm
 have hzl:zn<=256:=by rw[z1u h.z];exact h.room
 have hT:Tests Tryz.prog ((w.alloc (.cells #[.int .i64 k,.string ⟨#[]⟩,.string ⟨#[]⟩,.string pt,.slice ya yn yc,.slice za zn zc] 165 (0,0))).alloc (.cells #[.func (.func 128) #[(.agg #[.int .i64 k,.string ⟨#[]⟩,.string ⟨#[]⟩,.string pt,.slice ya yn yc,.slice za zn zc])] #[],.func (.func 129) #[(.agg #[.int .i64 k,.string ⟨#[]⟩,.string ⟨#[]⟩,.string pt,.slice ya yn yc,.slice za zn zc])] #[],.func (.func 130) #[(.agg #[.int .i64 k,.string ⟨#[]⟩,.string ⟨#[]⟩,.string pt,.slice ya yn yc,.slice za zn zc])] #[],.func (.func 131) #[(.agg #[.int .i64 k,.string ⟨#[]⟩,.string ⟨#[]⟩,.string pt,.slice ya yn yc,.slice za zn zc])] #[],.func (.func 132) #[(.agg #[.int .i64 k,.string ⟨#[]⟩,.string ⟨#[]⟩,.string pt,.slice ya yn yc,.slice za zn zc])] #[]] 46 (0,0))) (.agg #[.int .i64 k,.string ⟨#[]⟩,.string ⟨#[]⟩,.string pt,.slice ya yn yc,.slice za zn zc]) [128,129,130,131,132] (fun _=>true):=by
  refine⟨fun j f hj=>?_⟩
  have hb:∀ w1,Below ((w.alloc (.cells #[.int .i64 k,.string ⟨#[]⟩,.string ⟨#[]⟩,.string pt,.slice ya yn yc,.slice za zn zc] 165 (0,0))).alloc (.cells #[.func (.func 128) #[(.agg #[.int .i64 k,.string ⟨#[]⟩,.string ⟨#[]⟩,.string pt,.slice ya yn yc,.slice za zn zc])] #[],.func (.func 129) #[(.agg #[.int .i64 k,.string ⟨#[]⟩,.string ⟨#[]⟩,.string pt,.slice ya yn yc,.slice za zn zc])] #[],.func (.func 130) #[(.agg #[.int .i64 k,.string ⟨#[]⟩,.string ⟨#[]⟩,.string pt,.slice ya yn yc,.slice za zn zc])] #[],.func (.func 131) #[(.agg #[.int .i64 k,.string ⟨#[]⟩,.string ⟨#[]⟩,.string pt,.slice ya yn yc,.slice za zn zc])] #[],.func (.func 132) #[(.agg #[.int .i64 k,.string ⟨#[]⟩,.string ⟨#[]⟩,.string pt,.slice ya yn yc,.slice za zn zc])] #[]] 46 (0,0))).heap.size _ w1->Below w.heap.size w w1:=fun w1 h1=>hB.trans (h1.mono hB.size)
  rcases j with _|_|_|_|_|j
  ·cases hj;refine⟨enters_of Tryz.func128 (by kernel_rfl) rfl,fun w1 h1=>?_⟩
   have:=inner_at (k:=k) (cd:=⟨#[]⟩) (vl:=⟨#[]⟩) (pt:=pt) (ya:=ya) (yn:=yn) (yc:=yc) (za:=za) (zn:=zn) (zc:=zc) w1 (hr.keep (hb w1 h1)) hk
   have e:decide (0<z0v k)=true:=by rcases (by omega:k=2\/k=3\/k=4\/k=5) with rfl|rfl|rfl|rfl<;>rfl
   rwa [e] at this
  ·cases hj;exact⟨enters_of Tryz.func129 (by kernel_rfl) rfl,fun w1 _=>bare_at w1 hp⟩
  ·cases hj;exact⟨enters_of Tryz.func130 (by kernel_rfl) rfl,fun w1 _=>paired_at w1 hyz hzl⟩
  ·cases hj;exact⟨enters_of Tryz.func131 (by kernel_rfl) rfl,fun w1 h1=>rising_at (h.keep (hb w1 h1))⟩
  ·cases hj;exact⟨enters_of Tryz.func132 (by kernel_rfl) rfl,fun w1 h1=>refs_at (h.keep (hb w1 h1))⟩
  ·simp at hj
 rw[hs1] at hN
 have HAL:=hid (all_at (n:=5) (cp:=5) _ rfl (by decide) hT hN)
 have HB:=hid hB
 clear hT hN hB hs1 hk hk1 hp hyz hzl h hr
 go_enter Tryz.func117,Tryz.ntmps117
 go_wp2_with (go_at_call 116;refine HAL.out.mono ?_;rintro e w2 ⟨rfl,hB2⟩;have HB2:=hid hB2;clear hB2)
 go_ret
 exact⟨rfl,HB.out.trans (HB2.out.mono HB.out.size)⟩
end
def isRightB (k n:Nat):Bool:=decide (1<n) && decide (kindOf n=k)
section
variable {w w':World} {k:Nat} {pt:ByteArray} {ya za:Option Addr} {yn yc zn zc:Nat} {L:List Kd}
set_option maxHeartbeats 1000000 in
theorem isRight_at (h:NodeIn w k pt ya yn yc za zn zc L) (hr:RoomsAt w):Calls Tryz.prog 103 #[(.agg #[.int .i64 k,.string ⟨#[]⟩,.string ⟨#[]⟩,.string pt,.slice ya yn yc,.slice za zn zc])] w fun e w'=>e=.returned (.bool (isRightB k zn))/\Below w.heap.size w w':=by
 have hmf:=makeF Tryz.prog
 have hs1:(w.alloc (.cells #[.int .i64 k,.string ⟨#[]⟩,.string ⟨#[]⟩,.string pt,.slice ya yn yc,.slice za zn zc] 165 (0,0))).heap.size=w.heap.size+1:=by simp
 have hB:Below w.heap.size w ((w.alloc (.cells #[.int .i64 k,.string ⟨#[]⟩,.string ⟨#[]⟩,.string pt,.slice ya yn yc,.slice za zn zc] 165 (0,0))).alloc (.cells #[.func (.func 117) #[(.agg #[.int .i64 k,.string ⟨#[]⟩,.string ⟨#[]⟩,.string pt,.slice ya yn yc,.slice za zn zc])] #[],.func (.func 118) #[(.agg #[.int .i64 k,.string ⟨#[]⟩,.string ⟨#[]⟩,.string pt,.slice ya yn yc,.slice za zn zc])] #[],.func (.func 119) #[(.agg #[.int .i64 k,.string ⟨#[]⟩,.string ⟨#[]⟩,.string pt,.slice ya yn yc,.slice za zn zc])] #[]] 46 (0,0))):=((Below.refl _ _).alloc (Nat.le_refl _) _).alloc (by simp) _
 have hN:=rowIn_new (w.alloc (.cells #[.int .i64 k,.string ⟨#[]⟩,.string ⟨#[]⟩,.string pt,.slice ya yn yc,.slice za zn zc] 165 (0,0))) (.agg #[.int .i64 k,.string ⟨#[]⟩,.string ⟨#[]⟩,.string pt,.slice ya yn yc,.slice za zn zc]) [117,118,119]
 have hzl:zn<=256:=by rw[z1u h.z];exact h.room
 have hT:Tests Tryz.prog ((w.alloc (.cells #[.int .i64 k,.string ⟨#[]⟩,.string ⟨#[]⟩,.string pt,.slice ya yn yc,.slice za zn zc] 165 (0,0))).alloc (.cells #[.func (.func 117) #[(.agg #[.int .i64 k,.string ⟨#[]⟩,.string ⟨#[]⟩,.string pt,.slice ya yn yc,.slice za zn zc])] #[],.func (.func 118) #[(.agg #[.int .i64 k,.string ⟨#[]⟩,.string ⟨#[]⟩,.string pt,.slice ya yn yc,.slice za zn zc])] #[],.func (.func 119) #[(.agg #[.int .i64 k,.string ⟨#[]⟩,.string ⟨#[]⟩,.string pt,.slice ya yn yc,.slice za zn zc])] #[]] 46 (0,0))) (.agg #[.int .i64 k,.string ⟨#[]⟩,.string ⟨#[]⟩,.string pt,.slice ya yn yc,.slice za zn zc]) [117,118,119] (fun j=>[true,decide (1<zn),decide (kindOf zn=k)].getD j true):=by
  refine⟨fun j f hj=>?_⟩
  have hb:∀ w1,Below (((w.alloc (.cells #[.int .i64 k,.string ⟨#[]⟩,.string ⟨#[]⟩,.string pt,.slice ya yn yc,.slice za zn zc] 165 (0,0))).alloc (.cells #[.func (.func 117) #[(.agg #[.int .i64 k,.string ⟨#[]⟩,.string ⟨#[]⟩,.string pt,.slice ya yn yc,.slice za zn zc])] #[],.func (.func 118) #[(.agg #[.int .i64 k,.string ⟨#[]⟩,.string ⟨#[]⟩,.string pt,.slice ya yn yc,.slice za zn zc])] #[],.func (.func 119) #[(.agg #[.int .i64 k,.string ⟨#[]⟩,.string ⟨#[]⟩,.string pt,.slice ya yn yc,.slice za zn zc])] #[]] 46 (0,0)))).heap.size ((w.alloc (.cells #[.int .i64 k,.string ⟨#[]⟩,.string ⟨#[]⟩,.string pt,.slice ya yn yc,.slice za zn zc] 165 (0,0))).alloc (.cells #[.func (.func 117) #[(.agg #[.int .i64 k,.string ⟨#[]⟩,.string ⟨#[]⟩,.string pt,.slice ya yn yc,.slice za zn zc])] #[],.func (.func 118) #[(.agg #[.int .i64 k,.string ⟨#[]⟩,.string ⟨#[]⟩,.string pt,.slice ya yn yc,.slice za zn zc])] #[],.func (.func 119) #[(.agg #[.int .i64 k,.string ⟨#[]⟩,.string ⟨#[]⟩,.string pt,.slice ya yn yc,.slice za zn zc])] #[]] 46 (0,0))) w1->Below w.heap.size w w1:=fun w1 h1=>hB.trans (h1.mono hB.size)
  rcases j with _|_|_|j
  ·cases hj;exact⟨enters_of Tryz.func117 (by kernel_rfl) rfl,fun w1 h1=>isInner_at (h.keep (hb w1 h1)) (hr.keep (hb w1 h1))⟩
  ·cases hj;exact⟨enters_of Tryz.func118 (by kernel_rfl) rfl,fun w1 h1=>many_at w1⟩
  ·cases hj;exact⟨enters_of Tryz.func119 (by kernel_rfl) rfl,fun w1 h1=>fits_at w1 (hr.keep (hb w1 h1)) (by omega)⟩
  ·simp at hj
 rw[hs1] at hN
 have HAL:=hid (all_at (n:=3) (cp:=3) _ rfl (by decide) hT hN)
 have e:(List.range 3).all (fun j=>[true,decide (1<zn),decide (kindOf zn=k)].getD j true)=isRightB k zn:=by simp[isRightB,List.range_succ]
 rw[e] at HAL
 have HB:=hid hB
 clear hT hN hB hs1 hzl h hr e
 go_enter Tryz.func103,Tryz.ntmps103
 go_wp2_with (go_at_call 116;refine HAL.out.mono ?_;rintro e w2 ⟨rfl,hB2⟩;have HB2:=hid hB2;clear hB2)
 go_ret
 exact⟨rfl,HB.out.trans (HB2.out.mono HB.out.size)⟩
set_option maxHeartbeats 1000000 in
theorem isAnchor_at (h:NodeIn w k pt ya yn yc za zn zc L) (hr:RoomsAt w) (hk:k=5) (hp:pt=⟨#[]⟩):Calls Tryz.prog 104 #[(.agg #[.int .i64 k,.string ⟨#[]⟩,.string ⟨#[]⟩,.string pt,.slice ya yn yc,.slice za zn zc])] w fun e w'=>e=.returned (.bool true)/\Below w.heap.size w w':=by
 have hmf:=makeF Tryz.prog
 have hs1:(w.alloc (.cells #[.int .i64 k,.string ⟨#[]⟩,.string ⟨#[]⟩,.string pt,.slice ya yn yc,.slice za zn zc] 165 (0,0))).heap.size=w.heap.size+1:=by simp
 have hB:Below w.heap.size w ((w.alloc (.cells #[.int .i64 k,.string ⟨#[]⟩,.string ⟨#[]⟩,.string pt,.slice ya yn yc,.slice za zn zc] 165 (0,0))).alloc (.cells #[.func (.func 117) #[(.agg #[.int .i64 k,.string ⟨#[]⟩,.string ⟨#[]⟩,.string pt,.slice ya yn yc,.slice za zn zc])] #[],.func (.func 120) #[(.agg #[.int .i64 k,.string ⟨#[]⟩,.string ⟨#[]⟩,.string pt,.slice ya yn yc,.slice za zn zc])] #[]] 46 (0,0))):=((Below.refl _ _).alloc (Nat.le_refl _) _).alloc (by simp) _
 have hN:=rowIn_new (w.alloc (.cells #[.int .i64 k,.string ⟨#[]⟩,.string ⟨#[]⟩,.string pt,.slice ya yn yc,.slice za zn zc] 165 (0,0))) (.agg #[.int .i64 k,.string ⟨#[]⟩,.string ⟨#[]⟩,.string pt,.slice ya yn yc,.slice za zn zc]) [117,120]
 have hT:Tests Tryz.prog ((w.alloc (.cells #[.int .i64 k,.string ⟨#[]⟩,.string ⟨#[]⟩,.string pt,.slice ya yn yc,.slice za zn zc] 165 (0,0))).alloc (.cells #[.func (.func 117) #[(.agg #[.int .i64 k,.string ⟨#[]⟩,.string ⟨#[]⟩,.string pt,.slice ya yn yc,.slice za zn zc])] #[],.func (.func 120) #[(.agg #[.int .i64 k,.string ⟨#[]⟩,.string ⟨#[]⟩,.string pt,.slice ya yn yc,.slice za zn zc])] #[]] 46 (0,0))) (.agg #[.int .i64 k,.string ⟨#[]⟩,.string ⟨#[]⟩,.string pt,.slice ya yn yc,.slice za zn zc]) [117,120] (fun _=>true):=by
  refine⟨fun j f hj=>?_⟩
  have hb:∀ w1,Below (((w.alloc (.cells #[.int .i64 k,.string ⟨#[]⟩,.string ⟨#[]⟩,.string pt,.slice ya yn yc,.slice za zn zc] 165 (0,0))).alloc (.cells #[.func (.func 117) #[(.agg #[.int .i64 k,.string ⟨#[]⟩,.string ⟨#[]⟩,.string pt,.slice ya yn yc,.slice za zn zc])] #[],.func (.func 120) #[(.agg #[.int .i64 k,.string ⟨#[]⟩,.string ⟨#[]⟩,.string pt,.slice ya yn yc,.slice za zn zc])] #[]] 46 (0,0)))).heap.size ((w.alloc (.cells #[.int .i64 k,.string ⟨#[]⟩,.string ⟨#[]⟩,.string pt,.slice ya yn yc,.slice za zn zc] 165 (0,0))).alloc (.cells #[.func (.func 117) #[(.agg #[.int .i64 k,.string ⟨#[]⟩,.string ⟨#[]⟩,.string pt,.slice ya yn yc,.slice za zn zc])] #[],.func (.func 120) #[(.agg #[.int .i64 k,.string ⟨#[]⟩,.string ⟨#[]⟩,.string pt,.slice ya yn yc,.slice za zn zc])] #[]] 46 (0,0))) w1->Below w.heap.size w w1:=fun w1 h1=>hB.trans (h1.mono hB.size)
  rcases j with _|_|j
  ·cases hj;exact⟨enters_of Tryz.func117 (by kernel_rfl) rfl,fun w1 h1=>isInner_at (h.keep (hb w1 h1)) (hr.keep (hb w1 h1))⟩
  ·cases hj;exact⟨enters_of Tryz.func120 (by kernel_rfl) rfl,fun w1 h1=>top_at w1 hk hp⟩
  ·simp at hj
 rw[hs1] at hN
 have HAL:=hid (all_at (n:=2) (cp:=2) _ rfl (by decide) hT hN)
 have HB:=hid hB
 clear hT hN hB hs1 h hr hk hp
 go_enter Tryz.func104,Tryz.ntmps104
 go_wp2_with (go_at_call 116;refine HAL.out.mono ?_;rintro e w2 ⟨rfl,hB2⟩;have HB2:=hid hB2;clear hB2)
 go_ret
 exact⟨rfl,HB.out.trans (HB2.out.mono HB.out.size)⟩
def MayB (k n:Nat) (pt:ByteArray):Prop:=isRightB k n=true\/(k=5/\pt=⟨#[]⟩)
theorem may_at (h:NodeIn w k pt ya yn yc za zn zc L) (hr:RoomsAt w) (hm:MayB k zn pt):Calls Tryz.prog 73 #[(.agg #[.int .i64 k,.string ⟨#[]⟩,.string ⟨#[]⟩,.string pt,.slice ya yn yc,.slice za zn zc])] w fun e w'=>e=.returned (.bool true)/\Below w.heap.size w w':=by
 have hA:=h.alloc (.cells #[.int .i64 k,.string ⟨#[]⟩,.string ⟨#[]⟩,.string pt,.slice ya yn yc,.slice za zn zc] 165 (0,0))
 have hN:=z0a w (.cells #[.int .i64 k,.string ⟨#[]⟩,.string ⟨#[]⟩,.string pt,.slice ya yn yc,.slice za zn zc] 165 (0,0))
 have hrA:=hr.alloc (.cells #[.int .i64 k,.string ⟨#[]⟩,.string ⟨#[]⟩,.string pt,.slice ya yn yc,.slice za zn zc] 165 (0,0))
 have hB:Below w.heap.size w (w.alloc (.cells #[.int .i64 k,.string ⟨#[]⟩,.string ⟨#[]⟩,.string pt,.slice ya yn yc,.slice za zn zc] 165 (0,0))):=(Below.refl _ _).alloc (Nat.le_refl _) _
 have HI:=hid (isRight_at hA hrA)
 have HB:=hid hB
 cases hb:isRightB k zn
 ·have hk5:k=5/\pt=⟨#[]⟩:=by rcases hm with hm|hm;(rw[hb] at hm;cases hm);exact hm
  rw[hb] at HI
  have HAN:=hid (fun (w1:World) (h1:Below (w.alloc (.cells #[.int .i64 k,.string ⟨#[]⟩,.string ⟨#[]⟩,.string pt,.slice ya yn yc,.slice za zn zc] 165 (0,0))).heap.size (w.alloc (.cells #[.int .i64 k,.string ⟨#[]⟩,.string ⟨#[]⟩,.string pt,.slice ya yn yc,.slice za zn zc] 165 (0,0))) w1)=>isAnchor_at (hA.keep h1) (hrA.keep h1) hk5.1 hk5.2)
  have HN:=hid hN
  have HK:=hid hk5
  clear h hA hN hrA hB hm hb hk5 hr
  go_enter Tryz.func73,Tryz.ntmps73
  go_wp2_with (first|(go_at_call 103;refine HI.out.mono ?_;rintro e w2 ⟨rfl,hB2⟩;have hk:=(hB2.block w.heap.size (by simp)).trans HN.out;have c0:=cell_of hk 0;have c1:=cell_of hk 1;have c2:=cell_of hk 2;have c3:=cell_of hk 3;have c4:=cell_of hk 4;have c5:=cell_of hk 5;have HAN2:=hid (HAN.out _ hB2);have HB2:=hid hB2;clear hk hB2)|(go_at_call 104;refine HAN2.out.mono ?_;rintro e w3 ⟨rfl,hB3⟩;have HB3:=hid hB3;clear hB3))
  go_ret
  exact⟨rfl,(HB.out.trans (HB2.out.mono HB.out.size)).trans (HB3.out.mono (Nat.le_trans HB.out.size HB2.out.size))⟩
 ·rw[hb] at HI
  clear h hA hN hrA hB hm hb hr
  go_enter Tryz.func73,Tryz.ntmps73
  go_wp2_with (go_at_call 103;refine HI.out.mono ?_;rintro e w2 ⟨rfl,hB2⟩;have HB2:=hid hB2;clear hB2)
  go_ret
  exact⟨rfl,HB.out.trans (HB2.out.mono HB.out.size)⟩
end
def KidsAt (B:Nat) (w:World) (v:Value) (L:List Kd) (r:Nat):Prop :=
 (∃ x,B<=x/\v=.iface 229 (.pointer (some ⟨x,0,none⟩))/\FewL 244 w x L r)\/(∃ x gr gu,(B<=x/\B<=gr/\B<=gu)/\v=.iface 232 (.pointer (some ⟨x,0,none⟩))/\ManyL 251 36 4 w x gr gu r L)
theorem fewNew_no (r:Nat) (hr:r=48\/r=256) (w:World):Calls Tryz.prog 121 #[.int .i64 r] w fun e w'=>e=.returned (.tuple #[.pointer none,.int .i64 2])/\w=w':=by
 rcases hr with rfl|rfl
 ·go_enter Tryz.func121,Tryz.ntmps121;go_wp2;go_ret2;exact⟨rfl,rfl⟩
 ·go_enter Tryz.func121,Tryz.ntmps121;go_wp2;go_ret2;exact⟨rfl,rfl⟩
theorem row_at (r:Nat) (hr:r=4\/r=16\/r=48\/r=256) (w:World):Calls Tryz.prog 106 #[.int .i64 r] w fun e w'=>∃ v,e=.returned v/\KidsAt w.heap.size w' v [] r/\Below w.heap.size w w':=by
 by_cases hf:r=4\/r=16
 ·have HN:=hid (F.fNew_L r hf w)
  clear hr hf
  go_enter Tryz.func106,Tryz.ntmps106
  go_wp2_with (go_at_call 121;refine HN.out.mono ?_;rintro e w2 ⟨rfl,hL,hB⟩;have HL:=hid hL;have HB:=hid hB;clear hL hB)
  go_ret
  exact⟨_,rfl,.inl ⟨_,Nat.le_refl _,rfl,HL.out⟩,HB.out⟩
 ·have hm:r=48\/r=256:=by omega
  have HN:=hid (fewNew_no r hm w)
  rcases hm with rfl|rfl
  ·have HM:=hid (M.mNew48 w)
   clear hr hf
   go_enter Tryz.func106,Tryz.ntmps106
   go_wp2_with (first|(go_at_call 121;refine HN.out.mono ?_;rintro e w2 ⟨rfl,rfl⟩)|(go_at_call 122;refine HM.out.mono ?_;rintro e w2 ⟨x,gr,gu,rfl,hL,hl,hB⟩;have HL:=hid hL;have HB:=hid hB;have HLL:=hid hl;clear hL hB hl))
   go_ret
   exact⟨_,rfl,.inr ⟨x,gr,gu,HLL.out,rfl,HL.out⟩,HB.out⟩
  ·have HM:=hid (M.mNew256 w)
   clear hr hf
   go_enter Tryz.func106,Tryz.ntmps106
   go_wp2_with (first|(go_at_call 121;refine HN.out.mono ?_;rintro e w2 ⟨rfl,rfl⟩)|(go_at_call 122;refine HM.out.mono ?_;rintro e w2 ⟨x,gr,gu,rfl,hL,hl,hB⟩;have HL:=hid hL;have HB:=hid hB;have HLL:=hid hl;clear hL hB hl))
   go_ret
   exact⟨_,rfl,.inr ⟨x,gr,gu,HLL.out,rfl,HL.out⟩,HB.out⟩
end Go.Proofs.YtgdmfledhhoedaaGreatDoor.O
namespace Go.Burg
open Go
theorem take_put {L:List Kd} (hR:Rise L) {j:Nat} {k:Kd} (hk:L[j]?=some k):z0p (L.take j) k.b=none/\insK (L.take j) k=L.take (j+1)/\Rise (L.take j):=by
 have hj:=(List.getElem?_eq_some_iff.1 hk).1
 have hlt:∀ z∈L.take j,z.b<k.b:=fun z hz=>by
  obtain⟨i,hi,rfl⟩:=List.getElem_of_mem hz
  have hi2:i<j:=by simp at hi;omega
  have h1:=List.pairwise_iff_getElem.1 hR i j (by omega) hj hi2
  rw[List.getElem?_eq_getElem hj] at hk
  cases hk
  simpa using h1
 refine⟨?_,?_,hR.sublist (List.take_sublist _ _)⟩
 ·unfold z0p
  rw[List.find?_eq_none]
  intro z hz
  have:=hlt z hz
  simp
  omega
 ·rw[insK_last hlt,List.take_add_one,hk]
  rfl
end Go.Burg
namespace Go.Proofs.YtgdmfledhhoedaaGreatDoor.O
set_option maxRecDepth 8000
open Go.ChangeShapes Go.WideShapes Go.ChangeAt Go.RowKit Go.Burg
section
variable {w w':World} {k:Nat} {pt:ByteArray} {ya za:Option Addr} {yn yc zn zc:Nat} {L:List Kd}
set_option maxHeartbeats 4000000 in
theorem laid_at (r:Nat) (h:NodeIn w k pt ya yn yc za zn zc L) (hr:r=4\/r=16\/r=48\/r=256) (hlen:L.length<=r):Calls Tryz.prog 76 #[(.agg #[.int .i64 k,.string ⟨#[]⟩,.string ⟨#[]⟩,.string pt,.slice ya yn yc,.slice za zn zc]),.int .i64 r] w fun e w'=>∃ v,e=.returned v/\KidsAt w.heap.size w' v L r/\Below w.heap.size w w':=by
 have hnf:∀ (w:World) (b:Nat),(nilAhead 410 229 (.pointer (some ⟨b,0,none⟩)) "Put").run Tryz.prog w=.ok (some false) w:=fun w b=>by kernel_rfl
 have hnm:∀ (w:World) (b:Nat),(nilAhead 410 232 (.pointer (some ⟨b,0,none⟩)) "Put").run Tryz.prog w=.ok (some false) w:=fun w b=>by kernel_rfl
 have hmt:∀ (w:World) (b:Nat),(method 410 229 (.pointer (some ⟨b,0,none⟩)) "Put").run Tryz.prog w=.ok (186,.pointer (some ⟨b,0,none⟩)) w:=fun w b=>by kernel_rfl
 have hmu:∀ (w:World) (b:Nat),(method 410 232 (.pointer (some ⟨b,0,none⟩)) "Put").run Tryz.prog w=.ok (200,.pointer (some ⟨b,0,none⟩)) w:=fun w b=>by kernel_rfl
 have hmf:=makeF Tryz.prog
 have hA:=h.alloc (.cells #[.int .i64 k,.string ⟨#[]⟩,.string ⟨#[]⟩,.string pt,.slice ya yn yc,.slice za zn zc] 165 (0,0))
 have hN:=z0a w (.cells #[.int .i64 k,.string ⟨#[]⟩,.string ⟨#[]⟩,.string pt,.slice ya yn yc,.slice za zn zc] 165 (0,0))
 have hs1:(w.alloc (.cells #[.int .i64 k,.string ⟨#[]⟩,.string ⟨#[]⟩,.string pt,.slice ya yn yc,.slice za zn zc] 165 (0,0))).heap.size=w.heap.size+1:=by simp
 have HYN:Hid (yn=L.length):=hid (z1u h.b)
 have hB:Below w.heap.size w (w.alloc (.cells #[.int .i64 k,.string ⟨#[]⟩,.string ⟨#[]⟩,.string pt,.slice ya yn yc,.slice za zn zc] 165 (0,0))):=(Below.refl _ _).alloc (Nat.le_refl _) _
 have HROW:=hid (row_at r hr (w.alloc (.cells #[.int .i64 k,.string ⟨#[]⟩,.string ⟨#[]⟩,.string pt,.slice ya yn yc,.slice za zn zc] 165 (0,0))))
 have hL256:=h.room
 have HR:=hid h.rise
 have HOK:=hid h.ok
 go_enter Tryz.func76,Tryz.ntmps76
 go_wp2_with fail
 generalize hW:w.alloc (.cells #[.int .i64 k,.string ⟨#[]⟩,.string ⟨#[]⟩,.string pt,.slice ya yn yc,.slice za zn zc] 165 (0,0))=W at *
 generalize hu:w.heap.size=u at *
 have HA:=hid hA
 have HN:=hid hN
 have HB:=hid hB
 have HLEN:=hid hlen
 have HS1:=hid hs1
 have HU:=hid hu
 clear h hA hN hs1 hB hlen hr hW hu
 refine HROW.out.mono ?_
 rintro e w1 ⟨v,rfl,hK,hb1⟩
 have hk1:=(hb1.block u (lt_of_block HN.out)).trans HN.out
 have c4:=cell_of hk1 4
 have HN1:=hid hk1
 have HB1:=hid hb1
 clear hk1 hb1 HROW
 rcases hK with ⟨x,hx,rfl,hF⟩|⟨x,gr,gu,hx,rfl,hF⟩
 ·have HF:=hid hF
  clear hF
  go_wp2_with fail
  go_loopw [14] (fun iv wr=>∃ j:Nat,j<=yn/\iv=.int .i64 j/\FewL 244 wr x (L.take j) r/\Below W.heap.size W wr) (fun iv _=>yn - (intOf iv).toNat)
  case atStart=>exact⟨0,Nat.zero_le _,rfl,by rw[List.take_zero];exact HF.out,HB1.out⟩
  case round =>
   obtain⟨j,hj,rfl,hF,hb⟩:=hrel
   have hk:=(hb.block u (lt_of_block HN.out)).trans HN.out
   have HK:=hid hk
   have HBB:=hid hb
   have HFF:=hid hF
   clear hk hb hF
   by_cases hlt:j<yn
   ·have i1:j<L.length:=by have:=HYN.out;omega
    obtain⟨gb,rfl,hgb,hgbc⟩:=z0z HA.out.b (by omega)
    obtain⟨gz,rfl,hgz,hgzc⟩:=z0z HA.out.z (by omega)
    have hxk:L[j]?=some L[j]:=List.getElem?_eq_getElem _
    generalize L[j]=y at hxk
    obtain⟨yb,ys,yg⟩:=y
    have q0:wr.cell? ⟨gb,j,none⟩=some (.int .u8 yb):=(World.cell?_of_block (w:=W) (HBB.out.block gb hgb)).trans (hgbc _ _ (bytesL_get hxk))
    have q1:wr.cell? ⟨gz,j * 2,none⟩=some (.int .i64 ys):=(World.cell?_of_block (w:=W) (HBB.out.block gz hgz)).trans (hgzc _ _ (kidsL_get hxk).1)
    have q2:wr.cell? ⟨gz,j * 2+1,none⟩=some (.int .u32 yg):=(World.cell?_of_block (w:=W) (HBB.out.block gz hgz)).trans (hgzc _ _ (kidsL_get hxk).2)
    have HQ:=hid (And.intro q1 q2)
    have HGZ:=hid hgz
    have hzn:zn=L.length:=z1u HA.out.z
    have d0:decide (yn<=j)=false:=by simp;omega
    have d1:j<zn:=by omega
    have HBY:=hid (HOK.out _ (List.mem_of_getElem? hxk)).1
    obtain⟨t1,t2,t3⟩:=take_put HR.out hxk
    have HT1:=hid t1
    have HT2:=hid t2
    have htl:(L.take j).length<r:=by have:=HLEN.out;rw[List.length_take];omega
    have HTL:=hid htl
    clear hxk hgbc hgzc hgz q1 q2 hzn t1 t2 t3 htl
    go_wp2_with fail
    have hux:u≠x:=by have:=lt_of_block HN.out;omega
    have hgx:gz≠x:=by have:=HGZ.out;omega
    refine z0f 12 (Turn 11 (fun w2=>FewL 244 w2 x (L.take j) r/\Mod (·=x) wr w2) (fun w2=>FewL 244 w2 x (L.take (j+1)) r/\Mod (·=x) wr w2)) (by kernel_rfl) (by kernel_rfl) (by kernel_rfl) (Turn.start ⟨HFF.out.same rfl,(Mod.refl _ _).drew⟩) ?_
    dsimp only[List.take]
    iterate 11
     refine Seq.calm (a':=?_) (by decide) ?_ ?_ ?_
     rotate_left
     ·intro w1 hw1
      have hM:Mod (·=x) wr w1:=hw1.elim (fun h=>h.2) (fun h=>h.2)
      have hk:=(hM.block u (lt_of_block HK.out) (by exact hux)).trans HK.out
      have p5:=cell_of hk 5
      have r0:=(World.cell?_of_block (w:=wr) (hM.block gz (Nat.lt_of_lt_of_le HGZ.out HBB.out.size) (by exact hgx))).trans HQ.out.1
      have r1:=(World.cell?_of_block (w:=wr) (hM.block gz (Nat.lt_of_lt_of_le HGZ.out HBB.out.size) (by exact hgx))).trans HQ.out.2
      clear hM hk hw1
      go_wp2_with (fail)
      refine⟨?_,id,id⟩;exact rfl
     ·kernel_rfl
    refine Seq.turn (a':=?_) ?_ ?_ ?_
    rotate_left
    ·intro w1 hw1
     have hF2:=hw1.1
     have HM2:=hid hw1.2
     have HP:=hid (F.fPut_L ⟨yb,ys,yg⟩ w1 hF2 HT1.out HTL.out)
     rw[HT2.out] at HP
     clear hw1 hF2
     go_wp2_with (go_at_call 186;refine HP.out.mono ?_;rintro e w2 ⟨rfl,hF3,hM3⟩)
     refine⟨?_,hF3,HM2.out.trans hM3 (fun _ _ h=>h)⟩
     exact rfl
    ·kernel_rfl
    iterate 0
     refine Seq.calm (a':=?_) (by decide) ?_ ?_ ?_
     rotate_left
     ·intro w1 hw1
      have hM:Mod (·=x) wr w1:=hw1.elim (fun h=>h.2) (fun h=>h.2)
      have hk:=(hM.block u (lt_of_block HK.out) (by exact hux)).trans HK.out
      have p5:=cell_of hk 5
      have r0:=(World.cell?_of_block (w:=wr) (hM.block gz (Nat.lt_of_lt_of_le HGZ.out HBB.out.size) (by exact hgx))).trans HQ.out.1
      have r1:=(World.cell?_of_block (w:=wr) (hM.block gz (Nat.lt_of_lt_of_le HGZ.out HBB.out.size) (by exact hgx))).trans HQ.out.2
      clear hM hk hw1
      go_wp2_with (fail)
      refine⟨?_,id,id⟩;exact rfl
     ·kernel_rfl
    refine SeqI.nil ?_
    intro D w1 hD hI
    replace hI:=hI.done (hD 11 (by omega))
    clear hD
    dsimp only[List.drop]
    have HI:=hid hI
    clear hI
    go_wp2_with fail
    go_roundw
    case rel=>exact⟨j+1,by omega,by go_num,HI.out.1,HBB.out.trans (HI.out.2.below HBB.out.size (fun i hi e=>by omega))⟩
    case measure=>simp[intOf];omega
   ·obtain rfl:j=yn:=by omega
    go_wp2_with fail
    go_ret
    refine⟨_,rfl,.inl ⟨x,by have:=HS1.out;have:=HU.out;omega,rfl,?_⟩,?_⟩
    ·have:=HFF.out
     rwa [HYN.out,List.take_length] at this
    ·rw[HU.out];exact HB.out.trans (HBB.out.mono (by have:=HS1.out;omega))
 ·have HF:=hid hF
  clear hF
  go_wp2_with fail
  go_loopw [14] (fun iv wr=>∃ j:Nat,j<=yn/\iv=.int .i64 j/\ManyL 251 36 4 wr x gr gu r (L.take j)/\Below W.heap.size W wr) (fun iv _=>yn - (intOf iv).toNat)
  case atStart=>exact⟨0,Nat.zero_le _,rfl,by rw[List.take_zero];exact HF.out,HB1.out⟩
  case round =>
   obtain⟨j,hj,rfl,hF,hb⟩:=hrel
   have hk:=(hb.block u (lt_of_block HN.out)).trans HN.out
   have HK:=hid hk
   have HBB:=hid hb
   have HFF:=hid hF
   clear hk hb hF
   by_cases hlt:j<yn
   ·have i1:j<L.length:=by have:=HYN.out;omega
    obtain⟨gb,rfl,hgb,hgbc⟩:=z0z HA.out.b (by omega)
    obtain⟨gz,rfl,hgz,hgzc⟩:=z0z HA.out.z (by omega)
    have hxk:L[j]?=some L[j]:=List.getElem?_eq_getElem _
    generalize L[j]=y at hxk
    obtain⟨yb,ys,yg⟩:=y
    have q0:wr.cell? ⟨gb,j,none⟩=some (.int .u8 yb):=(World.cell?_of_block (w:=W) (HBB.out.block gb hgb)).trans (hgbc _ _ (bytesL_get hxk))
    have q1:wr.cell? ⟨gz,j * 2,none⟩=some (.int .i64 ys):=(World.cell?_of_block (w:=W) (HBB.out.block gz hgz)).trans (hgzc _ _ (kidsL_get hxk).1)
    have q2:wr.cell? ⟨gz,j * 2+1,none⟩=some (.int .u32 yg):=(World.cell?_of_block (w:=W) (HBB.out.block gz hgz)).trans (hgzc _ _ (kidsL_get hxk).2)
    have HQ:=hid (And.intro q1 q2)
    have HGZ:=hid hgz
    have hzn:zn=L.length:=z1u HA.out.z
    have d0:decide (yn<=j)=false:=by simp;omega
    have d1:j<zn:=by omega
    have HBY:=hid (HOK.out _ (List.mem_of_getElem? hxk)).1
    obtain⟨t1,t2,t3⟩:=take_put HR.out hxk
    have HT1:=hid t1
    have HT2:=hid t2
    have htl:(L.take j).length<r:=by have:=HLEN.out;rw[List.length_take];omega
    have HTL:=hid htl
    clear hxk hgbc hgzc hgz q1 q2 hzn t1 t2 t3 htl
    go_wp2_with fail
    have hux:¬ MOwn x gr gu u:=by have:=lt_of_block HN.out;rintro (e|e|e)<;>omega
    have hgx:¬ MOwn x gr gu gz:=by have:=HGZ.out;rintro (e|e|e)<;>omega
    refine z0f 12 (Turn 11 (fun w2=>ManyL 251 36 4 w2 x gr gu r (L.take j)/\Mod (MOwn x gr gu) wr w2) (fun w2=>ManyL 251 36 4 w2 x gr gu r (L.take (j+1))/\Mod (MOwn x gr gu) wr w2)) (by kernel_rfl) (by kernel_rfl) (by kernel_rfl) (Turn.start ⟨⟨by obtain⟨M,h1,h2⟩:=HFF.out.m;exact⟨M,h1.same rfl rfl rfl,h2⟩⟩,(Mod.refl _ _).drew⟩) ?_
    dsimp only[List.take]
    iterate 11
     refine Seq.calm (a':=?_) (by decide) ?_ ?_ ?_
     rotate_left
     ·intro w1 hw1
      have hM:Mod (MOwn x gr gu) wr w1:=hw1.elim (fun h=>h.2) (fun h=>h.2)
      have hk:=(hM.block u (lt_of_block HK.out) (by exact hux)).trans HK.out
      have p5:=cell_of hk 5
      have r0:=(World.cell?_of_block (w:=wr) (hM.block gz (Nat.lt_of_lt_of_le HGZ.out HBB.out.size) (by exact hgx))).trans HQ.out.1
      have r1:=(World.cell?_of_block (w:=wr) (hM.block gz (Nat.lt_of_lt_of_le HGZ.out HBB.out.size) (by exact hgx))).trans HQ.out.2
      clear hM hk hw1
      go_wp2_with (fail)
      refine⟨?_,id,id⟩;exact rfl
     ·kernel_rfl
    refine Seq.turn (a':=?_) ?_ ?_ ?_
    rotate_left
    ·intro w1 hw1
     have hF2:=hw1.1
     have HM2:=hid hw1.2
     have HP:=hid (M.put_L ⟨yb,ys,yg⟩ HTL.out hF2 HBY.out HT1.out)
     rw[HT2.out] at HP
     clear hw1 hF2
     go_wp2_with (go_at_call 200;refine HP.out.mono ?_;rintro e w2 ⟨rfl,hF3,hM3⟩)
     refine⟨?_,hF3,HM2.out.trans hM3 (fun _ _ h=>h)⟩
     exact rfl
    ·kernel_rfl
    iterate 0
     refine Seq.calm (a':=?_) (by decide) ?_ ?_ ?_
     rotate_left
     ·intro w1 hw1
      have hM:Mod (MOwn x gr gu) wr w1:=hw1.elim (fun h=>h.2) (fun h=>h.2)
      have hk:=(hM.block u (lt_of_block HK.out) (by exact hux)).trans HK.out
      have p5:=cell_of hk 5
      have r0:=(World.cell?_of_block (w:=wr) (hM.block gz (Nat.lt_of_lt_of_le HGZ.out HBB.out.size) (by exact hgx))).trans HQ.out.1
      have r1:=(World.cell?_of_block (w:=wr) (hM.block gz (Nat.lt_of_lt_of_le HGZ.out HBB.out.size) (by exact hgx))).trans HQ.out.2
      clear hM hk hw1
      go_wp2_with (fail)
      refine⟨?_,id,id⟩;exact rfl
     ·kernel_rfl
    refine SeqI.nil ?_
    intro D w1 hD hI
    replace hI:=hI.done (hD 11 (by omega))
    clear hD
    dsimp only[List.drop]
    have HI:=hid hI
    clear hI
    go_wp2_with fail
    go_roundw
    case rel=>exact⟨j+1,by omega,by go_num,HI.out.1,HBB.out.trans (HI.out.2.below HBB.out.size (fun i hi e=>by rcases e with e|e|e<;>omega))⟩
    case measure=>simp[intOf];omega
   ·obtain rfl:j=yn:=by omega
    go_wp2_with fail
    go_ret
    refine⟨_,rfl,.inr ⟨x,gr,gu,by have:=HS1.out;have:=HU.out;omega,rfl,?_⟩,?_⟩
    ·have:=HFF.out
     rwa [HYN.out,List.take_length] at this
    ·rw[HU.out];exact HB.out.trans (HBB.out.mono (by have:=HS1.out;omega))
end
variable {xs:List Value} {B n s:Nat} {e:TypeId} {v:Value} {w:World}
theorem own_ne {B':Nat} {e':TypeId} {s' n':Nat} {v':Value} {xs':List Value} (h:w.ownsRow B e s v n xs) (h':w.ownsRow B' e' s' v' n' xs') (hne:e≠e'):v.ownBlock=none\/v.ownBlock≠v'.ownBlock:=by
 obtain⟨_,⟨rfl,_⟩|⟨g,cap,cur,rfl,_,hc,_⟩⟩:=h
 ·exact .inl rfl
 ·obtain⟨_,⟨rfl,_⟩|⟨g',cap',cur',rfl,_,hc',_⟩⟩:=h'
  ·exact .inr (by simp[Value.ownBlock])
  ·refine .inr fun e=>?_
   simp only[Value.ownBlock,Option.some.injEq] at e
   subst e
   rw[hc] at hc'
   simp at hc'
   exact hne hc'.2
theorem z2a {k:Nat} (h:w.ownsRow B e s v n xs) (hk:v.ownBlock=some k):B<=k/\k<w.heap.size:=h.lt k hk
theorem z0h {w':World} {S:Nat->Prop} (h:w.ownsRow B e s v n xs) (hM:Mod S w w') (hs:∀ k,v.ownBlock=some k->¬ S k):w'.ownsRow B e s v n xs:=by
 have h':=h
 obtain⟨h1,h2|⟨g,cap,cur,a,b,c,d⟩⟩:=h
 ·exact⟨h1,.inl h2⟩
 ·exact⟨h1,.inr ⟨g,cap,cur,a,b,(hM.block g (lt_of_block c) (hs g (by rw[a];rfl))).trans c,d⟩⟩
def OfS (c7:Nat) (yv zv:Value) (k:Nat):Prop:=k=c7\/yv.ownBlock=some k\/zv.ownBlock=some k
structure OfJ (W0:World) (c7 n₁ n:Nat) (kd:Value) (pt:ByteArray) (yv zv:Value) (bs zs:List Value) (b s g:Int) (D:Nat->Bool) (xs:Nat->Value) (w:World):Prop where
 m:Mod (OfS c7 yv zv) W0 w
 c:w.heap[c7]?=some (.cells #[kd,.string ⟨#[]⟩,.string ⟨#[]⟩,.string pt,(cond (D 11) (xs 4) yv),(cond (D 13) (xs 9) zv)] 102 (0,0))
 y:w.ownsRow n₁ 5 1 (cond (D 4) (xs 4) yv) (cond (D 4) (n+1) n) (cond (D 4) (bs++[.int .u8 b]) bs)
 z:w.ownsRow n₁ 36 2 (cond (D 9) (xs 9) zv) (cond (D 9) (n+1) n) (cond (D 9) (zs++[.int .i64 s,.int .u32 g]) zs)
 y2:D 4=true->(xs 4).ownBlock=yv.ownBlock\/∃ a,(xs 4).ownBlock=some a/\W0.heap.size<=a
 z2:D 9=true->(xs 9).ownBlock=zv.ownBlock\/∃ a,(xs 9).ownBlock=some a/\W0.heap.size<=a
 l3:D 3=true->D 4=false->∃ a,xs 3=.slice (some ⟨a,0,none⟩) 1 1/\w.heap[a]?=some (.cells #[.int .u8 b] 5 (0,0))/\W0.heap.size<=a
 l8:D 8=true->D 9=false->∃ a,xs 8=.slice (some ⟨a,0,none⟩) 1 1/\w.heap[a]?=some (.cells #[.int .i64 s,.int .u32 g] 36 (0,0))/\W0.heap.size<=a
 o4:D 4=true->D 1=true/\D 3=true
 o9:D 9=true->D 6=true/\D 8=true
 o11:D 11=true->D 4=true
 o13:D 13=true->D 9=true
section
variable {W0 w w':World} {c7 n₁ n:Nat} {kd:Value} {pt:ByteArray} {yv zv:Value} {bs zs:List Value} {b s g:Int} {D:Nat->Bool} {xs:Nat->Value}
theorem OfJ.start (oy:W0.ownsRow n₁ 5 1 yv n bs) (oz:W0.ownsRow n₁ 36 2 zv n zs) (hc:W0.heap[c7]?=some (.cells #[kd,.string ⟨#[]⟩,.string ⟨#[]⟩,.string pt,yv,zv] 102 (0,0))):OfJ W0 c7 n₁ n kd pt yv zv bs zs b s g (fun _=>false) (fun _=>undef) W0.drew :=
 ⟨(Mod.refl _ _).drew,hc,oy,oz,fun h=>(by cases h),fun h=>(by cases h),fun h=>(by cases h),fun h=>(by cases h),fun h=>(by cases h),fun h=>(by cases h),fun h=>(by cases h),fun h=>(by cases h)⟩
theorem OfJ.up {i:Nat} (hi:i≠3/\i≠4/\i≠8/\i≠9/\i≠11/\i≠13):∀ k,(k=3\/k=4\/k=8\/k=9\/k=11\/k=13)->(fun j=>D j || j == i) k=D k/\∀ u:Value,(fun j=>if j=i then u else xs j) k=xs k:=by
 intro k hk
 have hne:k≠i:=by rcases hk with rfl|rfl|rfl|rfl|rfl|rfl<;>(intro e;subst e;simp at hi)
 exact⟨by simp[hne],fun u=>by simp[hne]⟩
theorem OfJ.calm (h:OfJ W0 c7 n₁ n kd pt yv zv bs zs b s g D xs w) {i:Nat} {u:Value} (hi:i≠3/\i≠4/\i≠8/\i≠9/\i≠11/\i≠13):OfJ W0 c7 n₁ n kd pt yv zv bs zs b s g (fun j=>D j || j == i) (fun j=>if j=i then u else xs j) w:=by
 have e:=OfJ.up (D:=D) (xs:=xs) hi
 have d3:(D 3 || 3 == i)=D 3:=(e 3 (by simp)).1
 have d4:(D 4 || 4 == i)=D 4:=(e 4 (by simp)).1
 have d8:(D 8 || 8 == i)=D 8:=(e 8 (by simp)).1
 have d9:(D 9 || 9 == i)=D 9:=(e 9 (by simp)).1
 have d11:(D 11 || 11 == i)=D 11:=(e 11 (by simp)).1
 have d13:(D 13 || 13 == i)=D 13:=(e 13 (by simp)).1
 have x3:(if 3=i then u else xs 3)=xs 3:=(e 3 (by simp)).2 u
 have x4:(if 4=i then u else xs 4)=xs 4:=(e 4 (by simp)).2 u
 have x8:(if 8=i then u else xs 8)=xs 8:=(e 8 (by simp)).2 u
 have x9:(if 9=i then u else xs 9)=xs 9:=(e 9 (by simp)).2 u
 refine⟨h.m,?_,?_,?_,?_,?_,?_,?_,?_,?_,?_,?_⟩
 ·rw[d11,d13,x4,x9];exact h.c
 ·rw[d4,x4];exact h.y
 ·rw[d9,x9];exact h.z
 ·rw[d4,x4];exact h.y2
 ·rw[d9,x9];exact h.z2
 ·rw[d3,d4,x3];exact h.l3
 ·rw[d8,d9,x8];exact h.l8
 ·rw[d4]
  intro h4
  obtain⟨a,b⟩:=h.o4 h4
  exact⟨by simp[a],by simp[b]⟩
 ·rw[d9]
  intro h9
  obtain⟨a,b⟩:=h.o9 h9
  exact⟨by simp[a],by simp[b]⟩
 ·rw[d11,d4];exact h.o11
 ·rw[d13,d9];exact h.o13
theorem OfJ.lay3 (h:OfJ W0 c7 n₁ n kd pt yv zv bs zs b s g D xs w) (h4:D 4=false):OfJ W0 c7 n₁ n kd pt yv zv bs zs b s g (fun j=>D j || j == 3) (fun j=>if j=3 then .slice (some ⟨w.heap.size,0,none⟩) 1 1 else xs j) (w.alloc (.cells #[.int .u8 b] 5 (0,0))):=by
 refine⟨h.m.alloc _,?_,?_,?_,?_,?_,fun _ _=>⟨_,rfl,z0a _ _,h.m.size⟩,?_,?_,?_,?_,?_⟩
 ·simpa using z0m h.c
 ·simpa using h.y.alloc _
 ·simpa using h.z.alloc _
 ·simpa using h.y2
 ·simpa using h.z2
 ·intro h8 h9
  obtain⟨a,e1,e2,e3⟩:=h.l8 (by simpa using h8) (by simpa using h9)
  exact⟨a,by simpa using e1,z0m e2,e3⟩
 ·intro e;simp at e;rw[h4] at e;cases e
 ·intro e;obtain⟨a,b⟩:=h.o9 (by simpa using e);exact⟨by simp[a],by simp[b]⟩
 ·intro e;have:=h.o11 (by simpa using e);simp[this]
 ·intro e;have:=h.o13 (by simpa using e);simp[this]
theorem OfJ.lay8 (h:OfJ W0 c7 n₁ n kd pt yv zv bs zs b s g D xs w) (h9:D 9=false):OfJ W0 c7 n₁ n kd pt yv zv bs zs b s g (fun j=>D j || j == 8) (fun j=>if j=8 then .slice (some ⟨w.heap.size,0,none⟩) 1 1 else xs j) (w.alloc (.cells #[.int .i64 s,.int .u32 g] 36 (0,0))):=by
 refine⟨h.m.alloc _,?_,?_,?_,?_,?_,?_,fun _ _=>⟨_,rfl,z0a _ _,h.m.size⟩,?_,?_,?_,?_⟩
 ·simpa using z0m h.c
 ·simpa using h.y.alloc _
 ·simpa using h.z.alloc _
 ·simpa using h.y2
 ·simpa using h.z2
 ·intro h3 h4
  obtain⟨a,e1,e2,e3⟩:=h.l3 (by simpa using h3) (by simpa using h4)
  exact⟨a,by simpa using e1,z0m e2,e3⟩
 ·intro e;obtain⟨a,b⟩:=h.o4 (by simpa using e);exact⟨by simp[a],by simp[b]⟩
 ·intro e;simp at e;rw[h9] at e;cases e
 ·intro e;have:=h.o11 (by simpa using e);simp[this]
 ·intro e;have:=h.o13 (by simpa using e);simp[this]
theorem OfJ.app4 (h:OfJ W0 c7 n₁ n kd pt yv zv bs zs b s g D xs w) (h0:c7<n₁) (hn1:∀ k,yv.ownBlock=some k->k<W0.heap.size) (hD:D 4=false) (hw:D 1=true/\D 3=true) {v':Value} (hy:w'.ownsRow n₁ 5 1 v' (n+1) (bs++[.int .u8 b])) (hg:w.grownBy w' yv.ownBlock) (hb:v'.ownBlock=yv.ownBlock\/v'.ownBlock=some w.heap.size) :
 OfJ W0 c7 n₁ n kd pt yv zv bs zs b s g (fun j=>D j || j == 4) (fun j=>if j=4 then v' else xs j) w':=by
 have h11:D 11=false:=by cases e:D 11;rfl;(have:=h.o11 e;rw[hD] at this;cases this)
 have hy0:=h.y
 rw[hD] at hy0
 have hMo:Mod (fun k=>yv.ownBlock=some k) w w':=⟨hg.os,hg.tape,hg.output,hg.size,fun k hk hn=>hg.block k hk (fun e=>hn e.symm)⟩
 refine⟨h.m.trans hMo (fun k _ e=>.inr (.inl e)),?_,by simpa using hy,?_,fun _=>?_,?_,fun _ e=>(by simp at e),?_,fun _=>⟨by simp[hw.1],by simp[hw.2]⟩,?_,fun _=>by simp,?_⟩
 ·have:=(hMo.block c7 (lt_of_block h.c) (fun e=>by have:=(z2a hy0 e).1;omega)).trans h.c
  simpa[h11] using this
 ·have hz:=h.z
  have hne:=own_ne hz hy0 (by decide)
  have:=z0h hz hMo (fun k e1 e2=>hne.elim (fun e=>by rw[e] at e1;cases e1) (fun e=>e (e1.trans e2.symm)))
  simpa using this
 ·simp only[if_pos]
  rcases hb with hb|hb
  ·exact .inl hb
  ·exact .inr ⟨_,hb,h.m.size⟩
 ·simpa using h.z2
 ·intro h8 h9
  obtain⟨a,e1,e2,e3⟩:=h.l8 (by simpa using h8) (by simpa using h9)
  exact⟨a,by simpa using e1,(hMo.block a (lt_of_block e2) (fun e=>by have:=hn1 a e;omega)).trans e2,e3⟩
 ·intro e;obtain⟨a,b⟩:=h.o9 (by simpa using e);exact⟨by simp[a],by simp[b]⟩
 ·intro e;have:=h.o13 (by simpa using e);simp[this]
theorem OfJ.app9 (h:OfJ W0 c7 n₁ n kd pt yv zv bs zs b s g D xs w) (h0:c7<n₁) (hn1:∀ k,zv.ownBlock=some k->k<W0.heap.size) (hD:D 9=false) (hw:D 6=true/\D 8=true) {v':Value} (hz:w'.ownsRow n₁ 36 2 v' (n+1) (zs++[.int .i64 s,.int .u32 g])) (hg:w.grownBy w' zv.ownBlock) (hb:v'.ownBlock=zv.ownBlock\/v'.ownBlock=some w.heap.size) :
 OfJ W0 c7 n₁ n kd pt yv zv bs zs b s g (fun j=>D j || j == 9) (fun j=>if j=9 then v' else xs j) w':=by
 have h13:D 13=false:=by cases e:D 13;rfl;(have:=h.o13 e;rw[hD] at this;cases this)
 have hz0:=h.z
 rw[hD] at hz0
 have hMo:Mod (fun k=>zv.ownBlock=some k) w w':=⟨hg.os,hg.tape,hg.output,hg.size,fun k hk hn=>hg.block k hk (fun e=>hn e.symm)⟩
 refine⟨h.m.trans hMo (fun k _ e=>.inr (.inr e)),?_,?_,by simpa using hz,?_,fun _=>?_,?_,fun _ e=>(by simp at e),?_,fun _=>⟨by simp[hw.1],by simp[hw.2]⟩,?_,fun _=>by simp⟩
 ·have:=(hMo.block c7 (lt_of_block h.c) (fun e=>by have:=(z2a hz0 e).1;omega)).trans h.c
  simpa[h13] using this
 ·have hy:=h.y
  have hne:=own_ne hy hz0 (by decide)
  have:=z0h hy hMo (fun k e1 e2=>hne.elim (fun e=>by rw[e] at e1;cases e1) (fun e=>e (e1.trans e2.symm)))
  simpa using this
 ·simpa using h.y2
 ·simp only[if_pos]
  rcases hb with hb|hb
  ·exact .inl hb
  ·exact .inr ⟨_,hb,h.m.size⟩
 ·intro h3 h4
  obtain⟨a,e1,e2,e3⟩:=h.l3 (by simpa using h3) (by simpa using h4)
  exact⟨a,by simpa using e1,(hMo.block a (lt_of_block e2) (fun e=>by have:=hn1 a e;omega)).trans e2,e3⟩
 ·intro e;obtain⟨a,b⟩:=h.o4 (by simpa using e);exact⟨by simp[a],by simp[b]⟩
 ·intro e;have:=h.o11 (by simpa using e);simp[this]
theorem OfJ.st11 (h:OfJ W0 c7 n₁ n kd pt yv zv bs zs b s g D xs w) (h0:c7<n₁) (hw:D 4=true) (u:Value):OfJ W0 c7 n₁ n kd pt yv zv bs zs b s g (fun j=>D j || j == 11) (fun j=>if j=11 then u else xs j) (w.setCell ⟨c7,4,none⟩ (xs 4)):=by
 have hMo:Mod (·=c7) w (w.setCell ⟨c7,4,none⟩ (xs 4)):=Mod.setCell (S:=(·=c7)) (p:=⟨c7,4,none⟩) (Mod.refl _ _) (.inl rfl) _
 have hy:=z0h h.y hMo (fun k e1 e2=>by have:=(z2a h.y e1).1;omega)
 have hz:=z0h h.z hMo (fun k e1 e2=>by have:=(z2a h.z e1).1;omega)
 refine⟨h.m.trans hMo (fun k _ e=>.inl e),?_,by simpa using hy,by simpa using hz,by simpa using h.y2,by simpa using h.z2,fun _ e=>(by simp[hw] at e),?_,?_,?_,fun _=>by simp[hw],?_⟩
 ·have:=heap_set (i:=4) (v:=xs 4) h.c
  simpa using this
 ·intro h8 h9
  obtain⟨a,e1,e2,e3⟩:=h.l8 (by simpa using h8) (by simpa using h9)
  refine⟨a,by simpa using e1,(hMo.block a (lt_of_block e2) (fun e=>?_)).trans e2,e3⟩
  subst e
  have:=h.c.symm.trans e2
  simp at this
 ·intro e;obtain⟨a,b⟩:=h.o4 (by simpa using e);exact⟨by simp[a],by simp[b]⟩
 ·intro e;obtain⟨a,b⟩:=h.o9 (by simpa using e);exact⟨by simp[a],by simp[b]⟩
 ·intro e;have:=h.o13 (by simpa using e);simp[this]
theorem OfJ.st13 (h:OfJ W0 c7 n₁ n kd pt yv zv bs zs b s g D xs w) (h0:c7<n₁) (hw:D 9=true) (u:Value):OfJ W0 c7 n₁ n kd pt yv zv bs zs b s g (fun j=>D j || j == 13) (fun j=>if j=13 then u else xs j) (w.setCell ⟨c7,5,none⟩ (xs 9)):=by
 have hMo:Mod (·=c7) w (w.setCell ⟨c7,5,none⟩ (xs 9)):=Mod.setCell (S:=(·=c7)) (p:=⟨c7,5,none⟩) (Mod.refl _ _) (.inl rfl) _
 have hy:=z0h h.y hMo (fun k e1 e2=>by have:=(z2a h.y e1).1;omega)
 have hz:=z0h h.z hMo (fun k e1 e2=>by have:=(z2a h.z e1).1;omega)
 refine⟨h.m.trans hMo (fun k _ e=>.inl e),?_,by simpa using hy,by simpa using hz,by simpa using h.y2,by simpa using h.z2,?_,fun _ e=>(by simp[hw] at e),?_,?_,?_,fun _=>by simp[hw]⟩
 ·have:=heap_set (i:=5) (v:=xs 9) h.c
  simpa using this
 ·intro h3 h4
  obtain⟨a,e1,e2,e3⟩:=h.l3 (by simpa using h3) (by simpa using h4)
  refine⟨a,by simpa using e1,(hMo.block a (lt_of_block e2) (fun e=>?_)).trans e2,e3⟩
  subst e
  have:=h.c.symm.trans e2
  simp at this
 ·intro e;obtain⟨a,b⟩:=h.o4 (by simpa using e);exact⟨by simp[a],by simp[b]⟩
 ·intro e;obtain⟨a,b⟩:=h.o9 (by simpa using e);exact⟨by simp[a],by simp[b]⟩
 ·intro e;have:=h.o11 (by simpa using e);simp[this]
end
end Go.Proofs.YtgdmfledhhoedaaGreatDoor.O
