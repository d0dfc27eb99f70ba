/- Part 21 of 27. -/
import Derived.Test.YtgdmfledhhoedaaGreatDoorD20
import Derived.Test.YtgdmfledhhoedaaGreatDoorD01
import Derived.Maps.RangeWalk
import Derived.Test.YtgdmfledhhoedaaGreatDoorD09
namespace Go.Proofs.YtgdmfledhhoedaaGreatDoor
set_option maxRecDepth 8000
open Go.ChangeShapes Go.WideShapes Go.ChangeAt Go.RowKit Go.Burg
theorem least_fit (a b c d:Int) (w:World) (h1:a<=c) (h2:b<=d) :
 Calls Tryz.prog 163 #[.agg #[.int .u64 a,.int .u64 b],.agg #[.int .u64 c,.int .u64 d]] w fun e w'=>e=.returned (.agg #[.int .u64 a,.int .u64 b])/\Below w.heap.size w w':=by
 have:=least_any a b c d w
 rwa [mn_le h1,mn_le h2] at this
theorem least_no1 (a b c d:Int) (w:World) (h1:c<a) :
 Calls Tryz.prog 163 #[.agg #[.int .u64 a,.int .u64 b],.agg #[.int .u64 c,.int .u64 d]] w fun e w'=>e=.returned (.agg #[.int .u64 c,.int .u64 (mn b d)])/\Below w.heap.size w w':=by
 have:=least_any a b c d w
 rwa [mn_gt (by omega)] at this
theorem least_no2 (a b c d:Int) (w:World) (h1:a<=c) (h2:d<b) :
 Calls Tryz.prog 163 #[.agg #[.int .u64 a,.int .u64 b],.agg #[.int .u64 c,.int .u64 d]] w fun e w'=>e=.returned (.agg #[.int .u64 a,.int .u64 d])/\Below w.heap.size w w':=by
 have:=least_any a b c d w
 rwa [mn_le h1,mn_gt (by omega)] at this
theorem pay_room (c b m:Nat) (mk mb hk hb kk kb last rk rb:Int) (hrk:hk=rk) (hrb:hb=rb) (w:World) (h:w.heap[b]?=some (PBlk mk mb hk hb kk kb last (some m))) (hc:w.heap[c]?=some (.cells #[.pointer (some ⟨b,0,none⟩)] 82)) :
 Calls Tryz.prog 177 #[.pointer (some ⟨c,0,none⟩)] w fun e w'=>e=.returned (.agg #[.int .u64 rk,.int .u64 rb])/\Below w.heap.size w w':=by
 subst hrk hrb
 exact pay1_any c b m mk mb hk hb kk kb last w h hc
theorem spend_pay_no (c:Nat) (b m:Nat) (mk mb hk hb kk kb last k y rk rb:Int) (w:World) (h:w.heap[b]?=some (PBlk mk mb hk hb kk kb last (some m))) (hc:w.heap[c]?=some (.cells #[.pointer (some ⟨b,0,none⟩)] 82)) (hrk:hk=rk) (hrb:hb=rb) (hno:¬ (k<=rk/\y<=rb)) :
 Calls Tryz.prog 158 #[.pointer (some ⟨b,0,none⟩),.int .u64 k,.int .u64 y,.func (.func 177) #[] #[.pointer (some ⟨c,0,none⟩)],.func (.func 178) #[] #[.pointer (some ⟨c,0,none⟩)]] w fun e w'=>e=.returned (.int .i64 10)/\Below w.heap.size w w':=by
 have HR:=hid (fun (w:World)=>pay_room c b m mk mb hk hb kk kb last rk rb hrk hrb w)
 clear hrk hrb
 by_cases h1:k<=rk
 ·have h2:rb<y:=by
   have:¬ y<=rb:=fun h=>hno ⟨h1,h⟩
   omega
  have q1:(rb == y)=false:=by simp;omega
  clear hno
  have hA:=z0c (o':=(.cells #[.int .u64 k,.int .u64 y] 33)) h
  have hcA:=z0c (o':=(.cells #[.int .u64 k,.int .u64 y] 33)) hc
  have hN:=z0a w (.cells #[.int .u64 k,.int .u64 y] 33)
  have hcl:=lt_of_block hc
  have cl:=lt_of_block h
  go_enter Tryz.func158,Tryz.ntmps158
  go_wp2_with (first|(go_at_call 87;refine (none_no b m mk mb hk hb kk kb last _ h).mono ?_;rintro e w' ⟨rfl,rfl⟩))
  refine z0g 6 (fun w1=>Below ((w.alloc (.cells #[.int .u64 k,.int .u64 y] 33))).heap.size ((w.alloc (.cells #[.int .u64 k,.int .u64 y] 33))) w1) (by kernel_rfl) (by kernel_rfl) (by kernel_rfl) ⟨rfl,rfl,rfl,Nat.le_refl _,fun _ _=>rfl⟩ ?_
  dsimp only[List.take]
  iterate 6
   refine Seq.cons (a':=?_) ?_ ?_ ?_
   rotate_left
   ·intro w1 hw1
    have h':=z0b hA hw1 (by simp;omega)
    have hc':=z0b hcA hw1 (by simp;omega)
    have hN':=z0b hN hw1 (by simp)
    have n0:=cell_of hN' 0
    have n1:=cell_of hN' 1
    go_wp2_with (first|(go_at_call 177;refine (HR.out _ h' hc').mono ?_;rintro e w' ⟨rfl,hb⟩)|(go_at_call 163;refine (least_no2 _ _ _ _ _ h1 h2).mono ?_;rintro e w' ⟨rfl,hb⟩))
    refine⟨?_,by first|assumption|(simpa using z0d hw1 hb hw1.size)⟩
    exact rfl
   ·kernel_rfl
  refine SeqI.nil ?_
  intro _ w1 _ hw1
  dsimp only[List.drop]
  go_wp2
  go_ret
  exact⟨rfl,((Below.refl _ _).alloc (Nat.le_refl _) _).trans (hw1.mono (by simp))⟩
 ·have h1':rk<k:=by omega
  have q1:(rk == k)=false:=by simp;omega
  clear hno h1
  have hA:=z0c (o':=(.cells #[.int .u64 k,.int .u64 y] 33)) h
  have hcA:=z0c (o':=(.cells #[.int .u64 k,.int .u64 y] 33)) hc
  have hN:=z0a w (.cells #[.int .u64 k,.int .u64 y] 33)
  have hcl:=lt_of_block hc
  have cl:=lt_of_block h
  go_enter Tryz.func158,Tryz.ntmps158
  go_wp2_with (first|(go_at_call 87;refine (none_no b m mk mb hk hb kk kb last _ h).mono ?_;rintro e w' ⟨rfl,rfl⟩))
  refine z0g 6 (fun w1=>Below ((w.alloc (.cells #[.int .u64 k,.int .u64 y] 33))).heap.size ((w.alloc (.cells #[.int .u64 k,.int .u64 y] 33))) w1) (by kernel_rfl) (by kernel_rfl) (by kernel_rfl) ⟨rfl,rfl,rfl,Nat.le_refl _,fun _ _=>rfl⟩ ?_
  dsimp only[List.take]
  iterate 6
   refine Seq.cons (a':=?_) ?_ ?_ ?_
   rotate_left
   ·intro w1 hw1
    have h':=z0b hA hw1 (by simp;omega)
    have hc':=z0b hcA hw1 (by simp;omega)
    have hN':=z0b hN hw1 (by simp)
    have n0:=cell_of hN' 0
    have n1:=cell_of hN' 1
    go_wp2_with (first|(go_at_call 177;refine (HR.out _ h' hc').mono ?_;rintro e w' ⟨rfl,hb⟩)|(go_at_call 163;refine (least_no1 _ _ _ _ _ h1').mono ?_;rintro e w' ⟨rfl,hb⟩))
    refine⟨?_,by first|assumption|(simpa using z0d hw1 hb hw1.size)⟩
    exact rfl
   ·kernel_rfl
  refine SeqI.nil ?_
  intro _ w1 _ hw1
  dsimp only[List.drop]
  go_wp2
  go_ret
  exact⟨rfl,((Below.refl _ _).alloc (Nat.le_refl _) _).trans (hw1.mono (by simp))⟩
theorem spend_pay_yes (c:Nat) (b m:Nat) (mk mb hk hb kk kb last k y rk rb:Int) (w:World) (h:w.heap[b]?=some (PBlk mk mb hk hb kk kb last (some m))) (hc:w.heap[c]?=some (.cells #[.pointer (some ⟨b,0,none⟩)] 82)) (hrk:hk=rk) (hrb:hb=rb) (h1:k<=rk) (h2:y<=rb) :
 Calls Tryz.prog 158 #[.pointer (some ⟨b,0,none⟩),.int .u64 k,.int .u64 y,.func (.func 177) #[] #[.pointer (some ⟨c,0,none⟩)],.func (.func 178) #[] #[.pointer (some ⟨c,0,none⟩)]] w fun e w'=>e=.returned (.int .i64 0)/\w'.heap[b]?=some (PBlk mk mb (IntKind.u64.wrap (hk - k)) (IntKind.u64.wrap (hb - y)) kk kb last (some m))/\Mod (·=b) w w':=by
 have HR:=hid (fun (w:World)=>pay_room c b m mk mb hk hb kk kb last rk rb hrk hrb w)
 clear hrk hrb
 have hA:=z0c (o':=(.cells #[.int .u64 k,.int .u64 y] 33)) h
 have hcA:=z0c (o':=(.cells #[.int .u64 k,.int .u64 y] 33)) hc
 have hN:=z0a w (.cells #[.int .u64 k,.int .u64 y] 33)
 have hcl:=lt_of_block hc
 have cl:=lt_of_block h
 go_enter Tryz.func158,Tryz.ntmps158
 go_wp2_with (first|(go_at_call 87;refine (none_no b m mk mb hk hb kk kb last _ h).mono ?_;rintro e w' ⟨rfl,rfl⟩))
 refine z0g 6 (fun w1=>Below ((w.alloc (.cells #[.int .u64 k,.int .u64 y] 33))).heap.size ((w.alloc (.cells #[.int .u64 k,.int .u64 y] 33))) w1) (by kernel_rfl) (by kernel_rfl) (by kernel_rfl) ⟨rfl,rfl,rfl,Nat.le_refl _,fun _ _=>rfl⟩ ?_
 dsimp only[List.take]
 iterate 6
  refine Seq.cons (a':=?_) ?_ ?_ ?_
  rotate_left
  ·intro w1 hw1
   have h':=z0b hA hw1 (by simp;omega)
   have hc':=z0b hcA hw1 (by simp;omega)
   have hN':=z0b hN hw1 (by simp)
   have n0:=cell_of hN' 0
   have n1:=cell_of hN' 1
   go_wp2_with (first|(go_at_call 177;refine (HR.out _ h' hc').mono ?_;rintro e w' ⟨rfl,hb⟩)|(go_at_call 163;refine (least_fit _ _ _ _ _ h1 h2).mono ?_;rintro e w' ⟨rfl,hb⟩))
   refine⟨?_,by first|assumption|(simpa using z0d hw1 hb hw1.size)⟩
   exact rfl
  ·kernel_rfl
 refine SeqI.nil ?_
 intro _ w1 _ hw1
 dsimp only[List.drop]
 have h':=z0b hA hw1 (by simp;omega)
 have hc':=z0b hcA hw1 (by simp;omega)
 have hN':=z0b hN hw1 (by simp)
 have n0:=cell_of hN' 0
 have n1:=cell_of hN' 1
 go_wp2_with (go_at_call 178;refine (pay2_any c b m mk mb hk hb kk kb last _ _ _ h' hc').mono ?_;rintro e w2 ⟨rfl,hP,hM⟩)
 go_ret
 exact⟨rfl,hP,Mod.trans (Mod.z0j (((Below.refl _ _).alloc (Nat.le_refl _) _).trans (hw1.mono (by simp)))) hM (fun _ _ h=>h)⟩
theorem reserve_room (c b m:Nat) (mk mb hk hb kk kb last rk rb:Int) (hrk:(IntKind.u64.wrap (mk - IntKind.u64.wrap (hk+kk)))=rk) (hrb:(IntKind.u64.wrap (mb - IntKind.u64.wrap (hb+kb)))=rb) (w:World) (h:w.heap[b]?=some (PBlk mk mb hk hb kk kb last (some m))) (hc:w.heap[c]?=some (.cells #[.pointer (some ⟨b,0,none⟩)] 82)) :
 Calls Tryz.prog 159 #[.pointer (some ⟨c,0,none⟩)] w fun e w'=>e=.returned (.agg #[.int .u64 rk,.int .u64 rb])/\Below w.heap.size w w':=by
 subst hrk hrb
 exact reserve1_any c b m mk mb hk hb kk kb last w h hc
theorem spend_reserve_no (c d:Nat) (b m:Nat) (mk mb hk hb kk kb last k y rk rb:Int) (w:World) (h:w.heap[b]?=some (PBlk mk mb hk hb kk kb last (some m))) (hc:w.heap[c]?=some (.cells #[.pointer (some ⟨b,0,none⟩)] 82)) (hrk:(IntKind.u64.wrap (mk - IntKind.u64.wrap (hk+kk)))=rk) (hrb:(IntKind.u64.wrap (mb - IntKind.u64.wrap (hb+kb)))=rb) (hno:¬ (k<=rk/\y<=rb)) :
 Calls Tryz.prog 158 #[.pointer (some ⟨b,0,none⟩),.int .u64 k,.int .u64 y,.func (.func 159) #[] #[.pointer (some ⟨c,0,none⟩)],.func (.func 161) #[] #[.pointer (some ⟨c,0,none⟩),.pointer (some ⟨d,0,none⟩)]] w fun e w'=>e=.returned (.int .i64 10)/\Below w.heap.size w w':=by
 have HR:=hid (fun (w:World)=>reserve_room c b m mk mb hk hb kk kb last rk rb hrk hrb w)
 clear hrk hrb
 by_cases h1:k<=rk
 ·have h2:rb<y:=by
   have:¬ y<=rb:=fun h=>hno ⟨h1,h⟩
   omega
  have q1:(rb == y)=false:=by simp;omega
  clear hno
  have hA:=z0c (o':=(.cells #[.int .u64 k,.int .u64 y] 33)) h
  have hcA:=z0c (o':=(.cells #[.int .u64 k,.int .u64 y] 33)) hc
  have hN:=z0a w (.cells #[.int .u64 k,.int .u64 y] 33)
  have hcl:=lt_of_block hc
  have cl:=lt_of_block h
  go_enter Tryz.func158,Tryz.ntmps158
  go_wp2_with (first|(go_at_call 87;refine (none_no b m mk mb hk hb kk kb last _ h).mono ?_;rintro e w' ⟨rfl,rfl⟩))
  refine z0g 6 (fun w1=>Below ((w.alloc (.cells #[.int .u64 k,.int .u64 y] 33))).heap.size ((w.alloc (.cells #[.int .u64 k,.int .u64 y] 33))) w1) (by kernel_rfl) (by kernel_rfl) (by kernel_rfl) ⟨rfl,rfl,rfl,Nat.le_refl _,fun _ _=>rfl⟩ ?_
  dsimp only[List.take]
  iterate 6
   refine Seq.cons (a':=?_) ?_ ?_ ?_
   rotate_left
   ·intro w1 hw1
    have h':=z0b hA hw1 (by simp;omega)
    have hc':=z0b hcA hw1 (by simp;omega)
    have hN':=z0b hN hw1 (by simp)
    have n0:=cell_of hN' 0
    have n1:=cell_of hN' 1
    go_wp2_with (first|(go_at_call 159;refine (HR.out _ h' hc').mono ?_;rintro e w' ⟨rfl,hb⟩)|(go_at_call 163;refine (least_no2 _ _ _ _ _ h1 h2).mono ?_;rintro e w' ⟨rfl,hb⟩))
    refine⟨?_,by first|assumption|(simpa using z0d hw1 hb hw1.size)⟩
    exact rfl
   ·kernel_rfl
  refine SeqI.nil ?_
  intro _ w1 _ hw1
  dsimp only[List.drop]
  go_wp2
  go_ret
  exact⟨rfl,((Below.refl _ _).alloc (Nat.le_refl _) _).trans (hw1.mono (by simp))⟩
 ·have h1':rk<k:=by omega
  have q1:(rk == k)=false:=by simp;omega
  clear hno h1
  have hA:=z0c (o':=(.cells #[.int .u64 k,.int .u64 y] 33)) h
  have hcA:=z0c (o':=(.cells #[.int .u64 k,.int .u64 y] 33)) hc
  have hN:=z0a w (.cells #[.int .u64 k,.int .u64 y] 33)
  have hcl:=lt_of_block hc
  have cl:=lt_of_block h
  go_enter Tryz.func158,Tryz.ntmps158
  go_wp2_with (first|(go_at_call 87;refine (none_no b m mk mb hk hb kk kb last _ h).mono ?_;rintro e w' ⟨rfl,rfl⟩))
  refine z0g 6 (fun w1=>Below ((w.alloc (.cells #[.int .u64 k,.int .u64 y] 33))).heap.size ((w.alloc (.cells #[.int .u64 k,.int .u64 y] 33))) w1) (by kernel_rfl) (by kernel_rfl) (by kernel_rfl) ⟨rfl,rfl,rfl,Nat.le_refl _,fun _ _=>rfl⟩ ?_
  dsimp only[List.take]
  iterate 6
   refine Seq.cons (a':=?_) ?_ ?_ ?_
   rotate_left
   ·intro w1 hw1
    have h':=z0b hA hw1 (by simp;omega)
    have hc':=z0b hcA hw1 (by simp;omega)
    have hN':=z0b hN hw1 (by simp)
    have n0:=cell_of hN' 0
    have n1:=cell_of hN' 1
    go_wp2_with (first|(go_at_call 159;refine (HR.out _ h' hc').mono ?_;rintro e w' ⟨rfl,hb⟩)|(go_at_call 163;refine (least_no1 _ _ _ _ _ h1').mono ?_;rintro e w' ⟨rfl,hb⟩))
    refine⟨?_,by first|assumption|(simpa using z0d hw1 hb hw1.size)⟩
    exact rfl
   ·kernel_rfl
  refine SeqI.nil ?_
  intro _ w1 _ hw1
  dsimp only[List.drop]
  go_wp2
  go_ret
  exact⟨rfl,((Below.refl _ _).alloc (Nat.le_refl _) _).trans (hw1.mono (by simp))⟩
theorem spend_reserve_yes (c d:Nat) (b m:Nat) (mk mb hk hb kk kb last k y rk rb:Int) (w:World) (h:w.heap[b]?=some (PBlk mk mb hk hb kk kb last (some m))) (hc:w.heap[c]?=some (.cells #[.pointer (some ⟨b,0,none⟩)] 82)) (hrk:(IntKind.u64.wrap (mk - IntKind.u64.wrap (hk+kk)))=rk) (hrb:(IntKind.u64.wrap (mb - IntKind.u64.wrap (hb+kb)))=rb) (h1:k<=rk) (h2:y<=rb) (l:List (Int × Int × Int)) (hd:w.heap[d]?=some (.cells #[.int .i64 0] 3)) (hm:z0q (Value.int .i64) lim w m l) (hcb:c≠b) (hdb:d≠b) (hdc:d≠c) (hl0:0<=last) (hl1:last<4000000000) (hnew:l.lookup (last+1)=none) :
 Calls Tryz.prog 158 #[.pointer (some ⟨b,0,none⟩),.int .u64 k,.int .u64 y,.func (.func 159) #[] #[.pointer (some ⟨c,0,none⟩)],.func (.func 161) #[] #[.pointer (some ⟨c,0,none⟩),.pointer (some ⟨d,0,none⟩)]] w fun e w'=>e=.returned (.int .i64 0)/\w'.heap[b]?=some (PBlk mk mb hk hb (IntKind.u64.wrap (kk+k)) (IntKind.u64.wrap (kb+y)) (last+1) (some m))/\w'.heap[d]?=some (.cells #[.int .i64 (last+1)] 3)/\z0q (Value.int .i64) lim w' m (l++[(last+1,k,y)])/\Mod (fun i=>i=b\/i=d\/i=m) w w':=by
 have HR:=hid (fun (w:World)=>reserve_room c b m mk mb hk hb kk kb last rk rb hrk hrb w)
 clear hrk hrb
 have hA:=z0c (o':=(.cells #[.int .u64 k,.int .u64 y] 33)) h
 have hcA:=z0c (o':=(.cells #[.int .u64 k,.int .u64 y] 33)) hc
 have hN:=z0a w (.cells #[.int .u64 k,.int .u64 y] 33)
 have hcl:=lt_of_block hc
 have cl:=lt_of_block h
 go_enter Tryz.func158,Tryz.ntmps158
 go_wp2_with (first|(go_at_call 87;refine (none_no b m mk mb hk hb kk kb last _ h).mono ?_;rintro e w' ⟨rfl,rfl⟩))
 refine z0g 6 (fun w1=>Below ((w.alloc (.cells #[.int .u64 k,.int .u64 y] 33))).heap.size ((w.alloc (.cells #[.int .u64 k,.int .u64 y] 33))) w1) (by kernel_rfl) (by kernel_rfl) (by kernel_rfl) ⟨rfl,rfl,rfl,Nat.le_refl _,fun _ _=>rfl⟩ ?_
 dsimp only[List.take]
 iterate 6
  refine Seq.cons (a':=?_) ?_ ?_ ?_
  rotate_left
  ·intro w1 hw1
   have h':=z0b hA hw1 (by simp;omega)
   have hc':=z0b hcA hw1 (by simp;omega)
   have hN':=z0b hN hw1 (by simp)
   have n0:=cell_of hN' 0
   have n1:=cell_of hN' 1
   go_wp2_with (first|(go_at_call 159;refine (HR.out _ h' hc').mono ?_;rintro e w' ⟨rfl,hb⟩)|(go_at_call 163;refine (least_fit _ _ _ _ _ h1 h2).mono ?_;rintro e w' ⟨rfl,hb⟩))
   refine⟨?_,by first|assumption|(simpa using z0d hw1 hb hw1.size)⟩
   exact rfl
  ·kernel_rfl
 refine SeqI.nil ?_
 intro _ w1 _ hw1
 dsimp only[List.drop]
 have h':=z0b hA hw1 (by simp;omega)
 have hc':=z0b hcA hw1 (by simp;omega)
 have hN':=z0b hN hw1 (by simp)
 have n0:=cell_of hN' 0
 have n1:=cell_of hN' 1
 have hd':=z0b (z0c (o':=(.cells #[.int .u64 k,.int .u64 y] 33)) hd) hw1 (by have:=lt_of_block hd;simp;omega)
 have hm':=(hm.alloc (.cells #[.int .u64 k,.int .u64 y] 33)).below hw1 (by have:=hm.lt;simp;omega)
 have HH:=hid (fun (w:World)=>reserve2_any c d b m mk mb hk hb kk kb last k y l w)
 have HL:=hid hnew
 clear hnew
 go_wp2_with (go_at_call 161;refine (HH.out _ h' hc' hd' hm' hcb hdb hdc hl0 hl1 HL.out).mono ?_;rintro e w2 ⟨rfl,hP,hPd,hPm,hM⟩)
 go_ret
 exact⟨rfl,hP,hPd,hPm,Mod.trans (Mod.z0j (((Below.refl _ _).alloc (Nat.le_refl _) _).trans (hw1.mono (by simp)))) hM (fun _ _ h=>h)⟩
theorem pay_no (b m:Nat) (mk mb hk hb kk kb last k y rk rb:Int) (w:World) (h:w.heap[b]?=some (PBlk mk mb hk hb kk kb last (some m))) (hrk:hk=rk) (hrb:hb=rb) (hno:¬ (k<=rk/\y<=rb)) :
 Calls Tryz.prog 172 #[.pointer (some ⟨b,0,none⟩),.int .u64 k,.int .u64 y] w fun e w'=>e=.returned (.int .i64 10)/\Below w.heap.size w w':=by
 have hA:=z0c (o':=.cells #[.pointer (some ⟨b,0,none⟩)] 82) h
 have hN:=z0a w (.cells #[.pointer (some ⟨b,0,none⟩)] 82)
 have HS:=hid (spend_pay_no w.heap.size b m mk mb hk hb kk kb last k y rk rb _ hA hN hrk hrb hno)
 clear hrk hrb hno
 have hl:=lt_of_block h
 go_enter Tryz.func172,Tryz.ntmps172
 go_wp2_with (go_at_call 158;refine HS.out.mono ?_;rintro e w1 ⟨rfl,hb1⟩)
 go_ret
 exact⟨rfl,((Below.refl _ _).alloc (Nat.le_refl _) _).trans (hb1.mono (by simp))⟩
theorem pay_yes (b m:Nat) (mk mb hk hb kk kb last k y rk rb:Int) (w:World) (h:w.heap[b]?=some (PBlk mk mb hk hb kk kb last (some m))) (hrk:hk=rk) (hrb:hb=rb) (h1:k<=rk) (h2:y<=rb) :
 Calls Tryz.prog 172 #[.pointer (some ⟨b,0,none⟩),.int .u64 k,.int .u64 y] w fun e w'=>e=.returned (.int .i64 0)/\w'.heap[b]?=some (PBlk mk mb (IntKind.u64.wrap (hk - k)) (IntKind.u64.wrap (hb - y)) kk kb last (some m))/\Mod (·=b) w w':=by
 have hA:=z0c (o':=.cells #[.pointer (some ⟨b,0,none⟩)] 82) h
 have hN:=z0a w (.cells #[.pointer (some ⟨b,0,none⟩)] 82)
 have HS:=hid (spend_pay_yes w.heap.size b m mk mb hk hb kk kb last k y rk rb _ hA hN hrk hrb h1 h2)
 clear hrk hrb h1 h2
 have hl:=lt_of_block h
 go_enter Tryz.func172,Tryz.ntmps172
 go_wp2_with (go_at_call 158;refine HS.out.mono ?_;rintro e w1 ⟨rfl,hP,hM⟩)
 go_ret
 exact⟨rfl,hP,Mod.trans (S:=(·=b)) ((Mod.refl _ w).alloc _) hM (fun _ _ h=>h)⟩
theorem reserve_no (b m:Nat) (mk mb hk hb kk kb last k y rk rb:Int) (w:World) (h:w.heap[b]?=some (PBlk mk mb hk hb kk kb last (some m))) (hrk:(IntKind.u64.wrap (mk - IntKind.u64.wrap (hk+kk)))=rk) (hrb:(IntKind.u64.wrap (mb - IntKind.u64.wrap (hb+kb)))=rb) (hno:¬ (k<=rk/\y<=rb)) :
 Calls Tryz.prog 155 #[.pointer (some ⟨b,0,none⟩),.int .u64 k,.int .u64 y] w fun e w'=>e=.returned (.tuple #[.int .i64 0,.int .i64 10])/\Below w.heap.size w w':=by
 have hA:=z0c (o':=.cells #[.int .i64 0] 3) (z0c (o':=.cells #[.pointer (some ⟨b,0,none⟩)] 82) h)
 have hN:=z0c (o':=.cells #[.int .i64 0] 3) (z0a w (.cells #[.pointer (some ⟨b,0,none⟩)] 82))
 have hD:((w.alloc (.cells #[.pointer (some ⟨b,0,none⟩)] 82)).alloc (.cells #[.int .i64 0] 3)).heap[w.heap.size+1]?=some (.cells #[.int .i64 0] 3):=by simpa using z0a (w.alloc (.cells #[.pointer (some ⟨b,0,none⟩)] 82)) (.cells #[.int .i64 0] 3)
 have HS:=hid (spend_reserve_no w.heap.size (w.heap.size+1) b m mk mb hk hb kk kb last k y rk rb _ hA hN hrk hrb hno)
 have HD:=hid hD
 clear hrk hrb hno hD
 have hl:=lt_of_block h
 go_enter Tryz.func155,Tryz.ntmps155
 go_wp2_with (go_at_call 158;refine HS.out.mono ?_;rintro e w1 ⟨rfl,hb1⟩;have hd1:=cell_of (z0b HD.out hb1 (by simp)) 0)
 go_ret2
 exact⟨rfl,(((Below.refl _ _).alloc (Nat.le_refl _) _).alloc (by simp) _).trans (hb1.mono (by simp;omega))⟩
theorem reserve_yes (b m:Nat) (mk mb hk hb kk kb last k y rk rb:Int) (w:World) (h:w.heap[b]?=some (PBlk mk mb hk hb kk kb last (some m))) (hrk:(IntKind.u64.wrap (mk - IntKind.u64.wrap (hk+kk)))=rk) (hrb:(IntKind.u64.wrap (mb - IntKind.u64.wrap (hb+kb)))=rb) (h1:k<=rk) (h2:y<=rb)
 (l:List (Int × Int × Int)) (hm:z0q (Value.int .i64) lim w m l) (hl0:0<=last) (hl1:last<4000000000) (hnew:l.lookup (last+1)=none) :
 Calls Tryz.prog 155 #[.pointer (some ⟨b,0,none⟩),.int .u64 k,.int .u64 y] w fun e w'=>e=.returned (.tuple #[.int .i64 (last+1),.int .i64 0]) /\
  w'.heap[b]?=some (PBlk mk mb hk hb (IntKind.u64.wrap (kk+k)) (IntKind.u64.wrap (kb+y)) (last+1) (some m))/\z0q (Value.int .i64) lim w' m (l++[(last+1,k,y)])/\Mod (fun i=>i=b\/i=m) w w':=by
 have hA:=z0c (o':=.cells #[.int .i64 0] 3) (z0c (o':=.cells #[.pointer (some ⟨b,0,none⟩)] 82) h)
 have hN:=z0c (o':=.cells #[.int .i64 0] 3) (z0a w (.cells #[.pointer (some ⟨b,0,none⟩)] 82))
 have hD:((w.alloc (.cells #[.pointer (some ⟨b,0,none⟩)] 82)).alloc (.cells #[.int .i64 0] 3)).heap[w.heap.size+1]?=some (.cells #[.int .i64 0] 3):=by simpa using z0a (w.alloc (.cells #[.pointer (some ⟨b,0,none⟩)] 82)) (.cells #[.int .i64 0] 3)
 have hl:=lt_of_block h
 have hlm:=hm.lt
 have HS:=hid (spend_reserve_yes w.heap.size (w.heap.size+1) b m mk mb hk hb kk kb last k y rk rb _ hA hN hrk hrb h1 h2 l hD ((hm.alloc _).alloc _) (by omega) (by omega) (by omega) hl0 hl1 hnew)
 clear hrk hrb h1 h2 hD hnew
 go_enter Tryz.func155,Tryz.ntmps155
 go_wp2_with (go_at_call 158;refine HS.out.mono ?_;rintro e w1 ⟨rfl,hP,hPd,hPm,hM⟩;have hd1:=cell_of hPd 0)
 go_ret2
 exact⟨rfl,hP,hPm,Mod.trans (S:=fun i=>i=b\/i=m) (((Mod.refl _ w).alloc _).alloc _) hM (fun i hi h=>by rcases h with h|h|h;exact .inl h;exact absurd h (by omega);exact .inr h)⟩
theorem close_none (b m:Nat) (mk mb hk hb kk kb last t:Int) (l:List (Int × Int × Int)) (w:World) (h:w.heap[b]?=some (PBlk mk mb hk hb kk kb last (some m))) (hm:z0q (Value.int .i64) lim w m l) (hl:l.lookup t=none) :
 Calls Tryz.prog 156 #[.pointer (some ⟨b,0,none⟩),.int .i64 t] w fun e w'=>e=.returned (.tuple #[.agg #[.int .u64 0,.int .u64 0],.int .i64 5])/\Below w.heap.size w w':=by
 have hA:=z0c (o':=(.cells #[.int .u64 0,.int .u64 0] 33)) h
 have HL:=hid hl
 clear hl
 obtain⟨c0,c1,c2,c3,c4,c5,c6,c7,cf,cl⟩:=z2n h
 go_enter Tryz.func156,Tryz.ntmps156
 go_wp2_with (first|(go_at_call 87;refine (none_no b m mk mb hk hb kk kb last _ hA).mono ?_;rintro e w' ⟨rfl,rfl⟩)|(at_lookup;refine wpList_lookup_map rfl _ _ _ _ rfl keyInt Tryz.underlying139 zeroLim rfl t rfl (hm.alloc _) ?_;rw[HL.out];simp only[Option.map_none,Option.getD_none,Option.isSome_none,if_true,lim]))
 refine bodyPost_ret (v:=.tuple #[.agg #[_,_],_]) (by simp[results,Tryz.results156,go_sem]) rfl ⟨rfl,?_⟩
 (repeat (first|exact Below.refl _ _|assumption|refine Below.drew ?_|refine Below.setCell ?_ (by simp) _|refine Below.alloc ?_ (by first|exact Nat.le_refl _|(simp;done)|(simp;omega)) _))
theorem close_some (b m:Nat) (mk mb hk hb kk kb last t k y:Int) (l:List (Int × Int × Int)) (w:World) (h:w.heap[b]?=some (PBlk mk mb hk hb kk kb last (some m))) (hm:z0q (Value.int .i64) lim w m l) (hl:l.lookup t=some (k,y)) :
 Calls Tryz.prog 156 #[.pointer (some ⟨b,0,none⟩),.int .i64 t] w fun e w'=>e=.returned (.tuple #[.agg #[.int .u64 k,.int .u64 y],.int .i64 0])/\w'.heap[b]?=some (PBlk mk mb hk hb (IntKind.u64.wrap (kk - k)) (IntKind.u64.wrap (kb - y)) last (some m)) /\
  z0q (Value.int .i64) lim w' m (delKV l t)/\Mod (fun i=>i=b\/i=m) w w':=by
 have hA:=z0c (o':=(.cells #[.int .u64 0,.int .u64 0] 33)) h
 have HL:=hid hl
 clear hl
 have hmb:m≠b:=fun e=>by obtain⟨es,c,h1,_⟩:=hm;subst e;rw[h] at h1;cases h1
 have hml:=hm.lt
 obtain⟨c0,c1,c2,c3,c4,c5,c6,c7,cf,cl⟩:=z2n h
 go_enter Tryz.func156,Tryz.ntmps156
 go_wp2_with (first|(go_at_call 87;refine (none_no b m mk mb hk hb kk kb last _ hA).mono ?_;rintro e w' ⟨rfl,rfl⟩)|(at_lookup;refine wpList_lookup_map rfl _ _ _ _ rfl keyInt Tryz.underlying139 zeroLim rfl t rfl (hm.alloc _) ?_;rw[HL.out];simp only[Option.map_some,Option.getD_some,Option.isSome_some,if_true,lim])|(at_delete;refine wpList_delete_map rfl _ _ _ _ rfl keyInt Tryz.underlying139 rfl t rfl ((hm.alloc _).alloc _) ?_;intro wd hm1 hM1;go_frame))
 clear hm hA
 have hb1:wd.heap[b]?=some (PBlk mk mb hk hb kk kb last (some m)):=(hM1.block b (by simp;omega) (Ne.symm hmb)).trans (z0c (z0c h))
 have hr1:wd.heap[w.heap.size]?=some (.cells #[.int .u64 0,.int .u64 0] 33):=(hM1.block _ (by simp;omega) (by omega)).trans (z0c (z0a _ _))
 have ha1:wd.heap[w.heap.size+1]?=some (.cells #[.int .u64 k,.int .u64 y] 33):=(hM1.block _ (by simp) (by omega)).trans (by simpa using z0a (w.alloc (.cells #[.int .u64 0,.int .u64 0] 33)) (.cells #[.int .u64 k,.int .u64 y] 33))
 have hMd:Mod (fun i=>i=b\/i=m) w wd:=Mod.trans (S:=fun i=>i=b\/i=m) (((Mod.refl _ w).alloc _).alloc _) hM1 (fun i _ h=>.inr h)
 have hwl:w.heap.size+1<wd.heap.size:=lt_of_block ha1
 clear hM1 h c0 c1 c2 c3 c4 c5 c6 c7 cf
 refine z0g 8 (fun w1=>Below (wd).heap.size (wd) w1) (by kernel_rfl) (by kernel_rfl) (by kernel_rfl) ⟨rfl,rfl,rfl,Nat.le_refl _,fun _ _=>rfl⟩ ?_
 dsimp only[List.take]
 iterate 8
  refine Seq.cons (a':=?_) ?_ ?_ ?_
  rotate_left
  ·intro w1 hw1
   have h':=z0b hb1 hw1 (by omega)
   have ha':=z0b ha1 hw1 (by omega)
   have n0:=cell_of ha' 0
   have n1:=cell_of ha' 1
   obtain⟨c0,c1,c2,c3,c4,c5,c6,c7,cf,cl⟩:=z2n h'
   clear h' ha'
   go_wp2_with (go_at_call 162;refine (minus_any _ _ _ _ _).mono ?_;rintro e w' ⟨rfl,hb⟩)
   refine⟨?_,by first|assumption|(simpa using z0d hw1 hb hw1.size)⟩
   exact rfl
  ·kernel_rfl
 refine SeqI.nil ?_
 intro _ w1 _ hw1
 dsimp only[List.drop]
 have h':=z0b hb1 hw1 (by omega)
 have ha':=z0b ha1 hw1 (by omega)
 have hr':=z0b hr1 hw1 (by omega)
 have n0:=cell_of ha' 0
 have n1:=cell_of ha' 1
 have r0:=cell_of hr' 0
 have r1:=cell_of hr' 1
 have rf:=z0e hr'
 have e1:w.heap.size≠b:=by omega
 have e2:w.heap.size+1≠b:=by omega
 obtain⟨c0,c1,c2,c3,c4,c5,c6,c7,cf,cl⟩:=z2n h'
 have HB:=hid h'
 clear h' ha' hr' ha1 hr1 hb1
 go_wp2
 refine bodyPost_ret (v:=.tuple #[.agg #[_,_],_]) (by simp[results,Tryz.results156,go_sem,r0,r1]) rfl ⟨rfl,?_,?_,?_⟩
 ·rw[Below.heap_setCell _ _ _ _ (by simpa using e1.symm),Below.heap_setCell _ _ _ _ (by simpa using e1.symm)]
  have:=heap_set (i:=5) (v:=.int .u64 (IntKind.u64.wrap (kb - y))) (heap_set (i:=4) (v:=.int .u64 (IntKind.u64.wrap (kk - k))) HB.out)
  simpa[PBlk] using this
 ·have hm2:=hm1.below hw1 hm1.lt
  exact (((hm2.setCell (by simpa using hmb) _).setCell (by simpa using hmb) _).setCell (by simp;omega) _).setCell (by simp;omega) _
 ·refine Mod.setCell ?_ (.inr (by simp)) _
  refine Mod.setCell ?_ (.inr (by simp)) _
  refine Mod.setCell ?_ (.inl (.inl rfl)) _
  refine Mod.setCell ?_ (.inl (.inl rfl)) _
  exact hMd.trans (S':=fun _=>False) (Mod.z0j hw1) (fun _ _ h=>h.elim)
theorem refund_none (b m:Nat) (mk mb hk hb kk kb last t:Int) (l:List (Int × Int × Int)) (w:World) (h:w.heap[b]?=some (PBlk mk mb hk hb kk kb last (some m))) (hm:z0q (Value.int .i64) lim w m l) (hl:l.lookup t=none) :
 Calls Tryz.prog 176 #[.pointer (some ⟨b,0,none⟩),.int .i64 t] w fun e w'=>e=.returned (.int .i64 5)/\Below w.heap.size w w':=by
 have HC:=hid (close_none b m mk mb hk hb kk kb last t l w h hm hl)
 clear h hm hl
 go_enter Tryz.func176,Tryz.ntmps176
 go_wp2_with (go_at_call 156;refine HC.out.mono ?_;rintro e w1 ⟨rfl,hb1⟩)
 go_ret
 exact⟨rfl,hb1.alloc hb1.size _⟩
theorem refund_some (b m:Nat) (mk mb hk hb kk kb last t k y:Int) (l:List (Int × Int × Int)) (w:World) (h:w.heap[b]?=some (PBlk mk mb hk hb kk kb last (some m))) (hm:z0q (Value.int .i64) lim w m l) (hl:l.lookup t=some (k,y)) :
 Calls Tryz.prog 176 #[.pointer (some ⟨b,0,none⟩),.int .i64 t] w fun e w'=>e=.returned (.int .i64 0)/\w'.heap[b]?=some (PBlk mk mb hk hb (IntKind.u64.wrap (kk - k)) (IntKind.u64.wrap (kb - y)) last (some m)) /\
  z0q (Value.int .i64) lim w' m (delKV l t)/\Mod (fun i=>i=b\/i=m) w w':=by
 have HC:=hid (close_some b m mk mb hk hb kk kb last t k y l w h hm hl)
 clear h hm hl
 go_enter Tryz.func176,Tryz.ntmps176
 go_wp2_with (go_at_call 156;refine HC.out.mono ?_;rintro e w1 ⟨rfl,hP,hm1,hM⟩)
 go_ret
 exact⟨rfl,z0c hP,hm1.alloc _,hM.alloc _⟩
theorem commit_none (b m:Nat) (mk mb hk hb kk kb last t:Int) (l:List (Int × Int × Int)) (w:World) (h:w.heap[b]?=some (PBlk mk mb hk hb kk kb last (some m))) (hm:z0q (Value.int .i64) lim w m l) (hl:l.lookup t=none) :
 Calls Tryz.prog 153 #[.pointer (some ⟨b,0,none⟩),.int .i64 t] w fun e w'=>e=.returned (.int .i64 5)/\Below w.heap.size w w':=by
 have HC:=hid (close_none b m mk mb hk hb kk kb last t l w h hm hl)
 clear h hm hl
 go_enter Tryz.func153,Tryz.ntmps153
 go_wp2_with (go_at_call 156;refine HC.out.mono ?_;rintro e w1 ⟨rfl,hb1⟩)
 go_ret
 exact⟨rfl,hb1.alloc hb1.size _⟩
theorem commit_some (b m:Nat) (mk mb hk hb kk kb last t k y:Int) (l:List (Int × Int × Int)) (w:World) (h:w.heap[b]?=some (PBlk mk mb hk hb kk kb last (some m))) (hm:z0q (Value.int .i64) lim w m l) (hl:l.lookup t=some (k,y)) :
 Calls Tryz.prog 153 #[.pointer (some ⟨b,0,none⟩),.int .i64 t] w fun e w'=>e=.returned (.int .i64 0)/\w'.heap[b]?=some (PBlk mk mb (IntKind.u64.wrap (hk+k)) (IntKind.u64.wrap (hb+y)) (IntKind.u64.wrap (kk - k)) (IntKind.u64.wrap (kb - y)) last (some m)) /\
  z0q (Value.int .i64) lim w' m (delKV l t)/\Mod (fun i=>i=b\/i=m) w w':=by
 have HC:=hid (close_some b m mk mb hk hb kk kb last t k y l w h hm hl)
 have hmb:m≠b:=fun e=>by obtain⟨es,c,h1,_⟩:=hm;subst e;rw[h] at h1;cases h1
 have hbl:=lt_of_block h
 have hml:=hm.lt
 clear h hm hl
 go_enter Tryz.func153,Tryz.ntmps153
 go_wp2_with (go_at_call 156;refine HC.out.mono ?_;rintro e wc ⟨rfl,hP,hm1,hM⟩;have hl1:=lt_of_block hP;have HP:=hid hP;have HM:=hid hM;have Hm:=hid hm1;clear hP hM hm1)
 have hz:=HM.out.size
 have hA:=z0c (o':=(.cells #[.int .u64 k,.int .u64 y] 33)) HP.out
 have hN:=z0a wc (.cells #[.int .u64 k,.int .u64 y] 33)
 refine z0g 8 (fun w1=>Below ((wc.alloc (.cells #[.int .u64 k,.int .u64 y] 33))).heap.size ((wc.alloc (.cells #[.int .u64 k,.int .u64 y] 33))) w1) (by kernel_rfl) (by kernel_rfl) (by kernel_rfl) ⟨rfl,rfl,rfl,Nat.le_refl _,fun _ _=>rfl⟩ ?_
 dsimp only[List.take]
 iterate 8
  refine Seq.cons (a':=?_) ?_ ?_ ?_
  rotate_left
  ·intro w1 hw1
   have h':=z0b hA hw1 (by simp;omega)
   have ha':=z0b hN hw1 (by simp)
   have n0:=cell_of ha' 0
   have n1:=cell_of ha' 1
   obtain⟨c0,c1,c2,c3,c4,c5,c6,c7,cf,cl⟩:=z2n h'
   clear h' ha'
   go_wp2_with (go_at_call 157;refine (plus_any _ _ _ _ _).mono ?_;rintro e w' ⟨rfl,hb⟩)
   refine⟨?_,by first|assumption|(simpa using z0d hw1 hb hw1.size)⟩
   exact rfl
  ·kernel_rfl
 refine SeqI.nil ?_
 intro _ w1 _ hw1
 dsimp only[List.drop]
 have h':=z0b hA hw1 (by simp;omega)
 obtain⟨c0,c1,c2,c3,c4,c5,c6,c7,cf,cl⟩:=z2n h'
 have HB:=hid h'
 clear h' hA hN
 go_wp2
 go_ret
 refine⟨rfl,?_,?_,?_⟩
 ·have:=heap_set (i:=3) (v:=.int .u64 (IntKind.u64.wrap (hb+y))) (heap_set (i:=2) (v:=.int .u64 (IntKind.u64.wrap (hk+k))) HB.out)
  simpa[PBlk] using this
 ·have hm2:=(Hm.out.alloc (.cells #[.int .u64 k,.int .u64 y] 33)).below hw1 (by have:=Hm.out.lt;simp;omega)
  exact (hm2.setCell (by simpa using hmb) _).setCell (by simpa using hmb) _
 ·refine Mod.setCell ?_ (.inl (.inl rfl)) _
  refine Mod.setCell ?_ (.inl (.inl rfl)) _
  exact (HM.out.alloc _).trans (S':=fun _=>False) (Mod.z0j hw1) (fun _ _ h=>h.elim)
end Go.Proofs.YtgdmfledhhoedaaGreatDoor
namespace Go.Burg.Purse
open Go.Burg
structure St where
 xk:Int
 xb:Int
 hk:Int
 hb:Int
 kk:Int
 kb:Int
 last:Int
 l:List (Int × Int × Int)
def sumK (l:List (Int × Int × Int)):Int:=(l.map (fun x=>x.2.1)).sum
def sumB (l:List (Int × Int × Int)):Int:=(l.map (fun x=>x.2.2)).sum
def big:Int:=18446744073709551615
structure Inv (s:St):Prop where
 xk:s.xk<=big
 xb:s.xb<=big
 hk:0<=s.hk
 hb:0<=s.hb
 fk:s.hk+s.kk<=s.xk
 fb:s.hb+s.kb<=s.xb
 sk:s.kk=sumK s.l
 sb:s.kb=sumB s.l
 ent:∀ x∈s.l,0<=x.2.1/\0<=x.2.2/\1<=x.1/\x.1<=s.last
 nod:(s.l.map Prod.fst).Nodup
 last:0<=s.last
theorem sumK_nonneg:∀ {l:List (Int × Int × Int)},(∀ x∈l,0<=x.2.1)->0<=sumK l:=by
 intro l
 induction l with
 | nil=>intro _;simp[sumK]
 | cons x l ih=>intro h;have h1:=h x (by simp);have h2:=ih (fun y hy=>h y (by simp[hy]));simp[sumK] at *;omega
theorem sumB_nonneg:∀ {l:List (Int × Int × Int)},(∀ x∈l,0<=x.2.2)->0<=sumB l:=by
 intro l
 induction l with
 | nil=>intro _;simp[sumB]
 | cons x l ih=>intro h;have h1:=h x (by simp);have h2:=ih (fun y hy=>h y (by simp[hy]));simp[sumB] at *;omega
theorem Inv.kk {s:St} (h:Inv s):0<=s.kk:=by rw[h.sk];exact sumK_nonneg fun x hx=>(h.ent x hx).1
theorem Inv.kb {s:St} (h:Inv s):0<=s.kb:=by rw[h.sb];exact sumB_nonneg fun x hx=>(h.ent x hx).2.1
theorem sum_del {l:List (Int × Int × Int)} (hn:(l.map Prod.fst).Nodup) {t k y:Int} (h:l.lookup t=some (k,y)):sumK (delKV l t)=sumK l - k/\sumB (delKV l t)=sumB l - y:=by
 induction l with
 | nil=>simp at h
 | cons x l ih =>
  obtain⟨a,b⟩:=x
  simp only[List.map_cons,List.nodup_cons] at hn
  simp only[List.lookup_cons] at h
  by_cases hta:t=a
  ·subst hta
   simp at h
   subst h
   have:delKV ((t,k,y) :: l) t=l:=by
    simp only[delKV,List.filter_cons,ne_eq,not_true_eq_false,decide_false,Bool.false_eq_true,if_false]
    refine List.filter_eq_self.2 fun z hz=>?_
    simp only[decide_not,Bool.not_eq_true',decide_eq_false_iff_not]
    exact fun e=>hn.1 (List.mem_map.2 ⟨z,hz,e⟩)
   rw[this]
   simp[sumK,sumB]
   omega
  ·have hf:(t == a)=false:=by simpa using hta
   rw[hf] at h
   have hat:a≠t:=fun e=>hta e.symm
   have:=ih hn.2 h
   have e:delKV ((a,b) :: l) t=(a,b) :: delKV l t:=by simp[delKV,hat]
   rw[e]
   simp[sumK,sumB] at *
   omega
variable {t:Int}
theorem mem_lookup {l:List (Int × Int × Int)} {k y:Int} (h:l.lookup t=some (k,y)):(t,k,y)∈l:=by
 induction l with
 | nil=>simp at h
 | cons x l ih =>
  obtain⟨a,b⟩:=x
  simp only[List.lookup_cons] at h
  by_cases hta:t=a
  ·subst hta;simp at h;subst h;simp
  ·have hf:(t == a)=false:=by simpa using hta
   rw[hf] at h
   exact List.mem_cons_of_mem _ (ih h)
def St.fits (s:St) (k y:Int):Prop:=k<=s.xk - (s.hk+s.kk)/\y<=s.xb - (s.hb+s.kb)
instance (s:St) (k y:Int):Decidable (s.fits k y):=by unfold St.fits;exact inferInstance
def St.res (s:St) (k y:Int):Int × Int × St :=
 if s.fits k y then (s.last+1,0,{ s with kk:=s.kk+k,kb:=s.kb+y,last:=s.last+1,l:=s.l++[(s.last+1,k,y)] }) else (0,10,s)
def St.ref (s:St) (t:Int):Int × St :=
 match s.l.lookup t with
 | some (k,y)=>(0,{ s with kk:=s.kk - k,kb:=s.kb - y,l:=delKV s.l t })
 | none=>(5,s)
def St.com (s:St) (t:Int):Int × St :=
 match s.l.lookup t with
 | some (k,y)=>(0,{ s with hk:=s.hk+k,hb:=s.hb+y,kk:=s.kk - k,kb:=s.kb - y,l:=delKV s.l t })
 | none=>(5,s)
def St.take (s:St) (k y:Int):Int × St:=if s.fits k y then (0,{ s with hk:=s.hk+k,hb:=s.hb+y }) else (10,s)
def St.pay (s:St) (k y:Int):Int × St:=if k<=s.hk/\y<=s.hb then (0,{ s with hk:=s.hk - k,hb:=s.hb - y }) else (10,s)
theorem del_mem {l:List (Int × Int × Int)} {x:Int × Int × Int} (h:x∈delKV l t):x∈l:=(List.mem_filter.1 h).1
theorem Inv.res {s:St} (h:Inv s) {k y:Int} (hk:0<=k) (hy:0<=y):Inv (s.res k y).2.2:=by
 unfold St.res
 split
 ·rename_i hf
  obtain⟨f1,f2⟩:=hf
  have:=h.xk;have:=h.xb;have:=h.last
  refine⟨h.xk,h.xb,h.hk,h.hb,by simp only;omega,by simp only;omega,?_,?_,?_,?_,by simp only;omega⟩
  ·simp only[h.sk,sumK,List.map_append,List.sum_append];simp
  ·simp only[h.sb,sumB,List.map_append,List.sum_append];simp
  ·intro x hx
   simp only[List.mem_append,List.mem_singleton] at hx
   rcases hx with hx|rfl
   ·have:=h.ent x hx;simp only;omega
   ·simp only;omega
  ·simp only[List.map_append,List.nodup_append]
   refine⟨h.nod,by simp,fun a ha b hb=>?_⟩
   simp at hb
   obtain⟨x,hx,rfl⟩:=List.mem_map.1 ha
   have:=h.ent x hx
   omega
 ·exact h
theorem Inv.fresh {s:St} (h:Inv s):s.l.lookup (s.last+1)=none:=lookup_none.2 fun x hx=>by have:=h.ent x hx;omega
theorem Inv.ref {s:St} (h:Inv s) (t:Int):Inv (s.ref t).2:=by
 unfold St.ref
 split
 ·rename_i k y hl
  have hm:=h.ent _ (mem_lookup hl)
  obtain⟨e1,e2⟩:=sum_del h.nod hl
  have:=h.fk;have:=h.fb
  exact⟨h.xk,h.xb,h.hk,h.hb,by simp only at *;omega,by simp only at *;omega,by rw[e1,h.sk],by rw[e2,h.sb],fun x hx=>h.ent x (del_mem hx),nodup_del h.nod,h.last⟩
 ·exact h
theorem Inv.com {s:St} (h:Inv s) (t:Int):Inv (s.com t).2:=by
 unfold St.com
 split
 ·rename_i k y hl
  have hm:=h.ent _ (mem_lookup hl)
  obtain⟨e1,e2⟩:=sum_del h.nod hl
  have:=h.fk;have:=h.fb;have:=h.hk;have:=h.hb
  exact⟨h.xk,h.xb,by simp only at *;omega,by simp only at *;omega,by simp only at *;omega,by simp only at *;omega,by rw[e1,h.sk],by rw[e2,h.sb],fun x hx=>h.ent x (del_mem hx),nodup_del h.nod,h.last⟩
 ·exact h
theorem Inv.take {s:St} (h:Inv s) {k y:Int} (hk:0<=k) (hy:0<=y):Inv (s.take k y).2:=by
 unfold St.take
 split
 ·rename_i hf
  obtain⟨f1,f2⟩:=hf
  have:=h.hk;have:=h.hb
  exact⟨h.xk,h.xb,by simp only;omega,by simp only;omega,by simp only;omega,by simp only;omega,h.sk,h.sb,h.ent,h.nod,h.last⟩
 ·exact h
theorem Inv.pay {s:St} (h:Inv s) {k y:Int} (hk:0<=k) (hy:0<=y):Inv (s.pay k y).2:=by
 unfold St.pay
 split
 ·rename_i hf
  obtain⟨f1,f2⟩:=hf
  have:=h.fk;have:=h.fb
  exact⟨h.xk,h.xb,by simp only;omega,by simp only;omega,by simp only;omega,by simp only;omega,h.sk,h.sb,h.ent,h.nod,h.last⟩
 ·exact h
theorem z2p {x:Int} (h0:0<=x) (h1:x<=big):IntKind.u64.wrap x=x:=by
 unfold big at h1
 have:IntKind.u64.wrap x=x % 18446744073709551616:=rfl
 rw[this]
 omega
def St.new (mk mb:Int):St:=⟨mk,mb,0,0,0,0,0,[]⟩
theorem Inv.new {mk mb:Int} (h1:0<=mk) (h2:mk<=big) (h3:0<=mb) (h4:mb<=big):Inv (St.new mk mb) :=
 ⟨h2,h4,by simp[St.new],by simp[St.new],by simp[St.new];omega,by simp[St.new];omega,rfl,rfl,by simp[St.new],by simp[St.new],by simp[St.new]⟩
end Go.Burg.Purse
namespace Go.Proofs.YtgdmfledhhoedaaGreatDoor
set_option maxRecDepth 8000
open Go.ChangeShapes Go.WideShapes Go.ChangeAt Go.RowKit Go.Burg
open Go.Burg.Purse (St Inv z2p big)
def z0i (w:World) (b m:Nat) (s:St):Prop :=
 w.heap[b]?=some (PBlk s.xk s.xb s.hk s.hb s.kk s.kb s.last (some m))/\z0q (Value.int .i64) lim w m s.l
theorem z0i.lt {w:World} {b m:Nat} {s:St} (h:z0i w b m s):b<w.heap.size/\m<w.heap.size:=⟨lt_of_block h.1,h.2.lt⟩
variable {b m:Nat} {w:World}
theorem z0i.ne {s:St} (h:z0i w b m s):b≠m:=fun e=>by
 obtain⟨es,c,h1,_⟩:=h.2
 have h2:=h.1
 subst e
 rw[h2] at h1
 cases h1
theorem z0i.below {w w':World} {b m B:Nat} {s:St} (h:z0i w b m s) (hb:Below B w w') (h1:b<B) (h2:m<B):z0i w' b m s:=⟨z0b h.1 hb h1,h.2.below hb h2⟩
theorem z0i.keep {w':World} {s:St} (h:z0i w b m s) (hb:Below w.heap.size w w'):z0i w' b m s:=h.below hb h.lt.1 h.lt.2
theorem z0i.alloc {w:World} {b m:Nat} {s:St} (h:z0i w b m s) (o:Obj):z0i (w.alloc o) b m s:=⟨z0c h.1,h.2.alloc o⟩
theorem z0i.mod {w w':World} {b m:Nat} {s:St} {S:Nat->Prop} (h:z0i w b m s) (hM:Mod S w w') (h1:¬ S b) (h2:¬ S m):z0i w' b m s:=⟨(hM.block b h.lt.1 h1).trans h.1,h.2.mod hM h2⟩
theorem z0i.setCell {w:World} {b m:Nat} {s:St} (h:z0i w b m s) {a:Addr} (h1:b≠a.block) (h2:m≠a.block) (v:Value):z0i (w.setCell a v) b m s:=⟨(Below.heap_setCell _ _ _ _ h1).trans h.1,h.2.setCell h2 v⟩
def Own (b m:Nat) (i:Nat):Prop:=i=b\/i=m
variable {w:World} {b m:Nat} {s:St}
theorem Inv.sums (h:Inv s):IntKind.u64.wrap (s.hk+s.kk)=s.hk+s.kk/\IntKind.u64.wrap (s.hb+s.kb)=s.hb+s.kb:=by
 have:=h.kk;have:=h.kb;have:=h.hk;have:=h.hb;have:=h.fk;have:=h.fb;have:=h.xk;have:=h.xb
 exact⟨z2p (by omega) (by omega),z2p (by omega) (by omega)⟩
theorem Inv.rooms (h:Inv s):IntKind.u64.wrap (s.xk - IntKind.u64.wrap (s.hk+s.kk))=s.xk - (s.hk+s.kk)/\IntKind.u64.wrap (s.xb - IntKind.u64.wrap (s.hb+s.kb))=s.xb - (s.hb+s.kb):=by
 obtain⟨e1,e2⟩:=Inv.sums h
 rw[e1,e2]
 have:=h.kk;have:=h.kb;have:=h.hk;have:=h.hb;have:=h.fk;have:=h.fb;have:=h.xk;have:=h.xb
 exact⟨z2p (by omega) (by omega),z2p (by omega) (by omega)⟩
theorem has_at (h:z0i w b m s):Calls Tryz.prog 50 #[.pointer (some ⟨b,0,none⟩)] w fun e w'=>e=.returned (.agg #[.int .u64 s.hk,.int .u64 s.hb])/\Below w.heap.size w w':=has_any b m _ _ _ _ _ _ _ w h.1
theorem reserve_at (h:z0i w b m s) (hi:Inv s) (hl:s.last<4000000000) (k y:Int) (hk:0<=k) (hy:0<=y) :
 Calls Tryz.prog 155 #[.pointer (some ⟨b,0,none⟩),.int .u64 k,.int .u64 y] w fun e w'=>e=.returned (.tuple #[.int .i64 (s.res k y).1,.int .i64 (s.res k y).2.1])/\z0i w' b m (s.res k y).2.2/\Mod (Own b m) w w':=by
 obtain⟨r1,r2⟩:=Inv.rooms hi
 by_cases hf:s.fits k y
 ·obtain⟨f1,f2⟩:=hf
  refine (reserve_yes b m _ _ _ _ _ _ _ k y _ _ w h.1 r1 r2 f1 f2 s.l h.2 hi.last hl hi.fresh).mono ?_
  rintro e w' ⟨rfl,hP,hM,hX⟩
  have hk2:=hi.kk;have hb2:=hi.kb;have:=hi.hk;have:=hi.hb;have:=hi.fk;have:=hi.fb;have:=hi.xk;have:=hi.xb
  rw[z2p (x:=s.kk+k) (by omega) (by omega),z2p (x:=s.kb+y) (by omega) (by omega)] at hP
  have e1:s.res k y=(s.last+1,0,{ s with kk:=s.kk+k,kb:=s.kb+y,last:=s.last+1,l:=s.l++[(s.last+1,k,y)] }):=if_pos ⟨f1,f2⟩
  rw[e1]
  exact⟨rfl,⟨hP,hM⟩,hX⟩
 ·refine (reserve_no b m _ _ _ _ _ _ _ k y _ _ w h.1 r1 r2 hf).mono ?_
  rintro e w' ⟨rfl,hb⟩
  have e1:s.res k y=(0,10,s):=if_neg hf
  rw[e1]
  exact⟨rfl,h.keep hb,Mod.z0j hb⟩
theorem pay_at (h:z0i w b m s) (hi:Inv s) (k y:Int) (hk:0<=k) (hy:0<=y) :
 Calls Tryz.prog 172 #[.pointer (some ⟨b,0,none⟩),.int .u64 k,.int .u64 y] w fun e w'=>e=.returned (.int .i64 (s.pay k y).1)/\z0i w' b m (s.pay k y).2/\Mod (Own b m) w w':=by
 by_cases hf:k<=s.hk/\y<=s.hb
 ·obtain⟨f1,f2⟩:=hf
  refine (pay_yes b m _ _ _ _ _ _ _ k y _ _ w h.1 rfl rfl f1 f2).mono ?_
  rintro e w' ⟨rfl,hP,hX⟩
  have hk2:=hi.kk;have hb2:=hi.kb;have:=hi.hk;have:=hi.hb;have:=hi.fk;have:=hi.fb;have:=hi.xk;have:=hi.xb
  rw[z2p (x:=s.hk - k) (by omega) (by omega),z2p (x:=s.hb - y) (by omega) (by omega)] at hP
  have e1:s.pay k y=(0,{ s with hk:=s.hk - k,hb:=s.hb - y }):=if_pos ⟨f1,f2⟩
  rw[e1]
  exact⟨rfl,⟨hP,h.2.mod hX (fun e=>h.ne e.symm)⟩,hX.mono fun _ _ h=>.inl h⟩
 ·refine (pay_no b m _ _ _ _ _ _ _ k y _ _ w h.1 rfl rfl hf).mono ?_
  rintro e w' ⟨rfl,hb⟩
  have e1:s.pay k y=(10,s):=if_neg hf
  rw[e1]
  exact⟨rfl,h.keep hb,Mod.z0j hb⟩
theorem refund_at (h:z0i w b m s) (hi:Inv s) (t:Int) :
 Calls Tryz.prog 176 #[.pointer (some ⟨b,0,none⟩),.int .i64 t] w fun e w'=>e=.returned (.int .i64 (s.ref t).1)/\z0i w' b m (s.ref t).2/\Mod (Own b m) w w':=by
 unfold St.ref
 cases hl:s.l.lookup t with
 | some x =>
  obtain⟨k,y⟩:=x
  have he:=hi.ent _ (Purse.mem_lookup hl)
  refine (refund_some b m _ _ _ _ _ _ _ t k y s.l w h.1 h.2 hl).mono ?_
  rintro e w' ⟨rfl,hP,hM,hX⟩
  have hk2:=(hi.ref t).kk;have hb2:=(hi.ref t).kb;have:=hi.hk;have:=hi.hb;have:=hi.fk;have:=hi.fb;have:=hi.xk;have:=hi.xb
  simp only[St.ref,hl] at hk2 hb2
  simp only at he
  rw[z2p (x:=s.kk - k) (by omega) (by omega),z2p (x:=s.kb - y) (by omega) (by omega)] at hP
  exact⟨rfl,⟨hP,hM⟩,hX⟩
 | none =>
  refine (refund_none b m _ _ _ _ _ _ _ t s.l w h.1 h.2 hl).mono ?_
  rintro e w' ⟨rfl,hb⟩
  exact⟨rfl,h.keep hb,Mod.z0j hb⟩
theorem commit_at (h:z0i w b m s) (hi:Inv s) (t:Int) :
 Calls Tryz.prog 153 #[.pointer (some ⟨b,0,none⟩),.int .i64 t] w fun e w'=>e=.returned (.int .i64 (s.com t).1)/\z0i w' b m (s.com t).2/\Mod (Own b m) w w':=by
 unfold St.com
 cases hl:s.l.lookup t with
 | some x =>
  obtain⟨k,y⟩:=x
  have he:=hi.ent _ (Purse.mem_lookup hl)
  refine (commit_some b m _ _ _ _ _ _ _ t k y s.l w h.1 h.2 hl).mono ?_
  rintro e w' ⟨rfl,hP,hM,hX⟩
  have hk2:=(hi.com t).kk;have hb2:=(hi.com t).kb;have:=hi.hk;have:=hi.hb;have:=hi.fk;have:=hi.fb;have:=hi.xk;have:=hi.xb
  simp only[St.com,hl] at hk2 hb2
  simp only at he
  rw[z2p (x:=s.kk - k) (by omega) (by omega),z2p (x:=s.kb - y) (by omega) (by omega),z2p (x:=s.hk+k) (by omega) (by omega),z2p (x:=s.hb+y) (by omega) (by omega)] at hP
  exact⟨rfl,⟨hP,hM⟩,hX⟩
 | none =>
  refine (commit_none b m _ _ _ _ _ _ _ t s.l w h.1 h.2 hl).mono ?_
  rintro e w' ⟨rfl,hb⟩
  exact⟨rfl,h.keep hb,Mod.z0j hb⟩
theorem new_at (mk mb:Int) (w:World):Calls Tryz.prog 26 #[.agg #[.int .u64 mk,.int .u64 mb]] w fun e w'=>∃ b m,e=.returned (.pointer (some ⟨b,0,none⟩))/\z0i w' b m (St.new mk mb)/\w.heap.size<=b/\w.heap.size<=m/\Below w.heap.size w w' :=
 (new_any mk mb w).mono fun _ _ ⟨b,m,he,h1,h2,h3,h4,_,h5⟩=>⟨b,m,he,⟨h1,h2⟩,h3,h4,h5⟩
end Go.Proofs.YtgdmfledhhoedaaGreatDoor
namespace Go.Proofs.YtgdmfledhhoedaaGreatDoor.T
set_option maxRecDepth 8000
open Go.ChangeShapes Go.WideShapes Go.ChangeAt Go.RowKit Go.Burg
open Go.Burg.Purse (St Inv)
variable {c m n p t x:Nat} {l:Nat->Ten}
theorem has1_any {s:St} (w:World) (h:TabAt 87 w x t l) (h2:n<=16) (hp:(l n).purse=some p) (hP:z0i w p m s) {u v:Int} (hc:w.heap[c]?=some (.cells #[.int .u64 u,.int .u64 v] 33 (0,0))) :
 Calls Tryz.prog 49 #[.pointer (some ⟨x,1+n * 4,none⟩),.pointer (some ⟨c,0,none⟩)] w fun e w'=>e=.returned (.tuple #[])/\w'.heap[c]?=some (.cells #[.int .u64 s.hk,.int .u64 s.hb] 33 (0,0))/\Mod (·=c) w w':=by
 obtain⟨_,_,_,c3⟩:=h.cell (show n<17 by omega)
 rw[hp] at c3
 simp only[Option.map_some] at c3
 have HP:=hid (has_at hP)
 have HC:=hid hc
 clear hP hp hc
 go_enter Tryz.func49,Tryz.ntmps49
 go_wp2_with (go_at_call 50;refine HP.out.mono ?_;rintro e w2 ⟨rfl,hB⟩;have hk:=z0b HC.out hB (lt_of_block HC.out);have k0:=cell_of hk 0;have k1:=cell_of hk 1;have kf:=z0e hk)
 go_end0
 exact⟨rfl,z0y (z0y (cs':=#[.int .u64 s.hk,.int .u64 v]) hk rfl) rfl,Mod.setCell (S:=(·=c)) (p:=⟨c,1,none⟩) (Mod.setCell (S:=(·=c)) (p:=⟨c,0,none⟩) (Mod.z0j hB) (.inl rfl) _) (.inl rfl) _⟩
theorem of_has {s:St} (w:World) (h:TabAt 87 w x t l) (h1:1<=n) (h2:n<=16) (hp:(l n).purse=some p) (hP:z0i w p m s) {u v:Int} (hc:w.heap[c]?=some (.cells #[.int .u64 u,.int .u64 v] 33 (0,0))) :
 Calls Tryz.prog 23 #[.pointer (some ⟨x,0,none⟩),.int .i64 n,.func (.func 49) #[] #[.pointer (some ⟨c,0,none⟩)]] w fun e w'=>e=.returned (.int .i64 0)/\w'.heap[c]?=some (.cells #[.int .u64 s.hk,.int .u64 s.hb] 33 (0,0))/\Mod (·=c) w w':=by
 have HI:=hid (has1_any w h h2 hp hP hc)
 clear hc hP
 have HT:=hid (z1i w h)
 obtain⟨_,cf⟩:=h.head
 obtain⟨c0,c1,c2,c3⟩:=h.cell (show n<17 by omega)
 rw[hp] at c3
 simp only[Option.map_some] at c3
 clear c0 c1 c2 hp
 have g1:decide ((n:Int)<1)=false:=by simp;omega
 have g2:decide ((n:Int) > 16)=false:=by simp;omega
 go_enter Tryz.func23,Tryz.ntmps23
 go_wp2_with (first|(go_at_call 55;refine HT.out.mono ?_;rintro e w2 ⟨rfl,rfl⟩)|(go_at_call 49;refine HI.out.mono ?_;rintro e w2 ⟨rfl,hC,hM⟩))
 go_ret
 exact⟨rfl,hC,hM⟩
theorem below_of {w w':World} {o:Obj} (hM:Mod (·=w.heap.size) (w.alloc o) w'):Below w.heap.size w w':=by
 have h0:Below w.heap.size w (w.alloc o):=(Below.refl _ _).alloc (Nat.le_refl _) _
 exact h0.trans ⟨hM.os,hM.tape,hM.output,hM.size,fun k hk=>hM.block k (by simp;omega) (by omega)⟩
theorem tHas_at {s:St} (w:World) (h:TabAt 87 w x t l) (h1:1<=n) (h2:n<=16) (hp:(l n).purse=some p) (hP:z0i w p m s) :
 Calls Tryz.prog 18 #[.pointer (some ⟨x,0,none⟩),.int .i64 n] w fun e w'=>e=.returned (.tuple #[.agg #[.int .u64 s.hk,.int .u64 s.hb],.bool true])/\Below w.heap.size w w':=by
 have hA:=h.alloc (.cells #[.int .u64 0,.int .u64 0] 33)
 have hPA:=hP.alloc (.cells #[.int .u64 0,.int .u64 0] 33)
 have hN:=z0a w (.cells #[.int .u64 0,.int .u64 0] 33)
 have HI:=hid (of_has _ hA h1 h2 hp hPA hN)
 clear hA hPA hN hp
 go_enter Tryz.func18,Tryz.ntmps18
 go_wp2_with (go_at_call 23;refine HI.out.mono ?_;rintro e w2 ⟨rfl,hC,hM⟩;have k0:=cell_of hC 0;have k1:=cell_of hC 1;have kf:=z0e hC)
 refine bodyPost_ret (v:=.tuple #[.agg #[_,_],_]) (by simp[results,Tryz.results18,go_sem,k0,k1]) rfl ⟨rfl,?_⟩
 have hB:Below w.heap.size w w2:=below_of hM
 exact (hB.setCell (Nat.le_refl _) _).setCell (Nat.le_refl _) _
end Go.Proofs.YtgdmfledhhoedaaGreatDoor.T
namespace Go.Burg
open Go
def Turn4 (c1 c2 c3 c4:Nat) (S:Bool->Bool->Bool->Bool->World->Prop):(Nat->Bool)->World->Prop:=fun D w=>S (D c1) (D c2) (D c3) (D c4) w
variable {w:World}
section
variable {P:Program} {L:List Oper} {ops:Array Oper} {S:Bool->Bool->Bool->Bool->World->Prop} {c1 c2 c3 c4 k:Nat} {o:Oper} {r:List Oper} {a a':Act} {K:Act->Prop}
theorem Turn4.start (h:S false false false false w):Turn4 c1 c2 c3 c4 S (fun _=>false) w:=h
theorem Turn4.done {D:Nat->Bool} (h:Turn4 c1 c2 c3 c4 S D w) (h1:D c1=true) (h2:D c2=true) (h3:D c3=true) (h4:D c4=true):S true true true true w:=by
 unfold Turn4 at h
 rwa [h1,h2,h3,h4] at h
theorem Turn4.done3 {D:Nat->Bool} (h:Turn4 c1 c2 c3 c4 S D w) (h1:D c1=true) (h2:D c2=true) (h3:D c3=true):∃ b,S true true true b w:=by
 unfold Turn4 at h
 rw[h1,h2,h3] at h
 exact⟨_,h⟩
theorem Seq4.calm (n1:c1≠k) (n2:c2≠k) (n3:c3≠k) (n4:c4≠k) (h:∀ b1 b2 b3 b4 w,(behind L c1 k=true->b1=false)->((Go.Burg.waits o).any (fun i=>i == c1 || behind L i c1)=true->b1=true)->(behind L c2 k=true->b2=false)->((Go.Burg.waits o).any (fun i=>i == c2 || behind L i c2)=true->b2=true)->(behind L c3 k=true->b3=false)->((Go.Burg.waits o).any (fun i=>i == c3 || behind L i c3)=true->b3=true)->(behind L c4 k=true->b4=false)->((Go.Burg.waits o).any (fun i=>i == c4 || behind L i c4)=true->b4=true)->S b1 b2 b3 b4 w->wpList P ops (z2m fun a1 w'=>a1=a'/\S b1 b2 b3 b4 w') [o] a w)
 (hp:a'=a.put o.dst (a'.tmps.getD (o.dst.getD 0) undef)) (k1:SeqC P L ops (Turn4 c1 c2 c3 c4 S) (k+1) r a' K):SeqC P L ops (Turn4 c1 c2 c3 c4 S) k (o :: r) a K :=
 ⟨a',fun D w hD hw hcl hI=>z0u _ _ (by
  rintro a1 w' ⟨rfl,h1⟩
  refine⟨rfl,?_⟩
  unfold Turn4
  have e1:(c1 == k)=false:=by simpa using n1
  have e2:(c2 == k)=false:=by simpa using n2
  have e3:(c3 == k)=false:=by simpa using n3
  have e4:(c4 == k)=false:=by simpa using n4
  simpa[e1,e2,e3,e4] using h1) (h _ _ _ _ w (fun e=>hcl.ahead e hD) (fun e=>hcl.z1x hw e) (fun e=>hcl.ahead e hD) (fun e=>hcl.z1x hw e) (fun e=>hcl.ahead e hD) (fun e=>hcl.z1x hw e) (fun e=>hcl.ahead e hD) (fun e=>hcl.z1x hw e) hI),hp,k1⟩
theorem Seq4.at1 (n2:c2≠c1) (n3:c3≠c1) (n4:c4≠c1) (h:∀ b2 b3 b4 w,(behind L c2 c1=true->b2=false)->((Go.Burg.waits o).any (fun i=>i == c2 || behind L i c2)=true->b2=true)->(behind L c3 c1=true->b3=false)->((Go.Burg.waits o).any (fun i=>i == c3 || behind L i c3)=true->b3=true)->(behind L c4 c1=true->b4=false)->((Go.Burg.waits o).any (fun i=>i == c4 || behind L i c4)=true->b4=true)->S false b2 b3 b4 w->wpList P ops (z2m fun a1 w'=>a1=a'/\S true b2 b3 b4 w') [o] a w)
 (hp:a'=a.put o.dst (a'.tmps.getD (o.dst.getD 0) undef)) (k1:SeqC P L ops (Turn4 c1 c2 c3 c4 S) (c1+1) r a' K):SeqC P L ops (Turn4 c1 c2 c3 c4 S) c1 (o :: r) a K :=
 ⟨a',fun D w hD hw hcl hI=>z0u _ _ (by
  rintro a1 w' ⟨rfl,h1⟩
  refine⟨rfl,?_⟩
  unfold Turn4
  have e2:(c2 == c1)=false:=by simpa using n2
  have e3:(c3 == c1)=false:=by simpa using n3
  have e4:(c4 == c1)=false:=by simpa using n4
  simpa[e2,e3,e4] using h1) (h _ _ _ w (fun e=>hcl.ahead e hD) (fun e=>hcl.z1x hw e) (fun e=>hcl.ahead e hD) (fun e=>hcl.z1x hw e) (fun e=>hcl.ahead e hD) (fun e=>hcl.z1x hw e) (by unfold Turn4 at hI;rw[hD] at hI;exact hI)),hp,k1⟩
theorem Seq4.at2 (n1:c1≠c2) (n3:c3≠c2) (n4:c4≠c2) (h:∀ b1 b3 b4 w,(behind L c1 c2=true->b1=false)->((Go.Burg.waits o).any (fun i=>i == c1 || behind L i c1)=true->b1=true)->(behind L c3 c2=true->b3=false)->((Go.Burg.waits o).any (fun i=>i == c3 || behind L i c3)=true->b3=true)->(behind L c4 c2=true->b4=false)->((Go.Burg.waits o).any (fun i=>i == c4 || behind L i c4)=true->b4=true)->S b1 false b3 b4 w->wpList P ops (z2m fun a1 w'=>a1=a'/\S b1 true b3 b4 w') [o] a w)
 (hp:a'=a.put o.dst (a'.tmps.getD (o.dst.getD 0) undef)) (k1:SeqC P L ops (Turn4 c1 c2 c3 c4 S) (c2+1) r a' K):SeqC P L ops (Turn4 c1 c2 c3 c4 S) c2 (o :: r) a K :=
 ⟨a',fun D w hD hw hcl hI=>z0u _ _ (by
  rintro a1 w' ⟨rfl,h1⟩
  refine⟨rfl,?_⟩
  unfold Turn4
  have e1:(c1 == c2)=false:=by simpa using n1
  have e3:(c3 == c2)=false:=by simpa using n3
  have e4:(c4 == c2)=false:=by simpa using n4
  simpa[e1,e3,e4] using h1) (h _ _ _ w (fun e=>hcl.ahead e hD) (fun e=>hcl.z1x hw e) (fun e=>hcl.ahead e hD) (fun e=>hcl.z1x hw e) (fun e=>hcl.ahead e hD) (fun e=>hcl.z1x hw e) (by unfold Turn4 at hI;rw[hD] at hI;exact hI)),hp,k1⟩
theorem Seq4.at3 (n1:c1≠c3) (n2:c2≠c3) (n4:c4≠c3) (h:∀ b1 b2 b4 w,(behind L c1 c3=true->b1=false)->((Go.Burg.waits o).any (fun i=>i == c1 || behind L i c1)=true->b1=true)->(behind L c2 c3=true->b2=false)->((Go.Burg.waits o).any (fun i=>i == c2 || behind L i c2)=true->b2=true)->(behind L c4 c3=true->b4=false)->((Go.Burg.waits o).any (fun i=>i == c4 || behind L i c4)=true->b4=true)->S b1 b2 false b4 w->wpList P ops (z2m fun a1 w'=>a1=a'/\S b1 b2 true b4 w') [o] a w)
 (hp:a'=a.put o.dst (a'.tmps.getD (o.dst.getD 0) undef)) (k1:SeqC P L ops (Turn4 c1 c2 c3 c4 S) (c3+1) r a' K):SeqC P L ops (Turn4 c1 c2 c3 c4 S) c3 (o :: r) a K :=
 ⟨a',fun D w hD hw hcl hI=>z0u _ _ (by
  rintro a1 w' ⟨rfl,h1⟩
  refine⟨rfl,?_⟩
  unfold Turn4
  have e1:(c1 == c3)=false:=by simpa using n1
  have e2:(c2 == c3)=false:=by simpa using n2
  have e4:(c4 == c3)=false:=by simpa using n4
  simpa[e1,e2,e4] using h1) (h _ _ _ w (fun e=>hcl.ahead e hD) (fun e=>hcl.z1x hw e) (fun e=>hcl.ahead e hD) (fun e=>hcl.z1x hw e) (fun e=>hcl.ahead e hD) (fun e=>hcl.z1x hw e) (by unfold Turn4 at hI;rw[hD] at hI;exact hI)),hp,k1⟩
end
end Go.Burg
