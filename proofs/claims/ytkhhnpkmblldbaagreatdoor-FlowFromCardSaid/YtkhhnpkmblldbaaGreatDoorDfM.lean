/- Plain law: parts of texts. No conditions. -/
import Derived.Test.YtkhhnpkmblldbaaGreatDoorTrimWalk
import Derived.Test.YtkhhnpkmblldbaaGreatDoorAm16
import Derived.Lib.ItoaNum
import Derived.Test.YtkhhnpkmblldbaaGreatDoorAm13
namespace Go.Proofs.YtkhhnpkmblldbaaGreatDoor.DfM
open Go Am
set_option linter.unusedVariables false
set_option linter.unusedSimpArgs false
abbrev Str:=List Nat
def spl (c:Nat):Str→List Str
 | []=>[[]]
 | b::s=>if b=c then []::spl c s else match spl c s with | []=>[[b]] | h::t=>(b::h)::t
theorem spl_ne (c:Nat):∀ s,spl c s≠[]
 | []=>by simp [spl]
 | b::s=>by
  unfold spl
  split
  ·simp
  ·split <;> simp
theorem spl_no {c:Nat}:∀ {s:Str},c∉s→spl c s=[s]
 | [],_=>rfl
 | b::s,h=>by
  rw [List.mem_cons,not_or] at h
  unfold spl
  rw [if_neg (fun e=>h.1 e.symm),spl_no h.2]
theorem spl_app {c:Nat}:∀ {a:Str} (r:Str),c∉a→spl c (a++c::r)=a::spl c r
 | [],r,_=>by
  show spl c (c::r)=_
  unfold spl
  rw [if_pos rfl]
  cases r <;> rfl
 | b::a,r,h=>by
  rw [List.mem_cons,not_or] at h
  show spl c (b::(a++c::r))=_
  have:=spl_app r h.2
  rw [spl,if_neg (fun e=>h.1 e.symm),this]
theorem idxB_none {c:Nat}:∀ {s:Str} {k:Nat},idxB c s k=none→c∉s
 | [],k,_=>by simp
 | b::s,k,h=>by
  unfold idxB at h
  cases hb:Nat.beq b c with
  | true=>rw [hb] at h; cases h
  | false=>
   rw [hb] at h
   have h1:b≠c:=fun e=>by subst e; rw [Nat.beq_refl] at hb; cases hb
   rw [List.mem_cons,not_or]
   exact ⟨fun e=>h1 e.symm,idxB_none h⟩
theorem idxB_some {c:Nat}:∀ {s:Str} {k i:Nat},idxB c s k=some i→∃ a r,s=a++c::r∧i=k + a.length∧c∉a
 | [],k,i,h=>by cases h
 | b::s,k,i,h=>by
  unfold idxB at h
  cases hb:Nat.beq b c with
  | true=>
   rw [hb] at h
   cases h
   have:b=c:=Nat.eq_of_beq_eq_true hb
   subst this
   exact ⟨[],s,rfl,rfl,by simp⟩
  | false=>
   rw [hb] at h
   have h1:b≠c:=fun e=>by subst e; rw [Nat.beq_refl] at hb; cases hb
   obtain ⟨a,r,rfl,rfl,h3⟩:=idxB_some h
   refine ⟨b::a,r,rfl,by simp; omega,?_⟩
   rw [List.mem_cons,not_or]
   exact ⟨fun e=>h1 e.symm,h3⟩
theorem idxB_app {c:Nat}:∀ {a:Str} (r:Str) (k:Nat),c∉a→idxB c (a++c::r) k=some (k + a.length)
 | [],r,k,_=>by
  show idxB c (c::r) k=_
  unfold idxB
  rw [Nat.beq_refl]; rfl
 | b::a,r,k,h=>by
  rw [List.mem_cons,not_or] at h
  show idxB c (b::(a++c::r)) k=_
  unfold idxB
  have hb:Nat.beq b c=false:=by
   rw [← Bool.not_eq_true]; exact fun e=>h.1 (Nat.eq_of_beq_eq_true e).symm
  rw [hb,cond_false,idxB_app r (k + 1) h.2,List.length_cons]
  congr 1; omega
theorem spl_len (c:Nat):∀ s,(spl c s).length=cntB c s + 1
 | []=>rfl
 | b::s=>by
  have ih:=spl_len c s
  unfold spl cntB
  by_cases h:b=c
  ·subst h
   rw [if_pos rfl,Nat.beq_refl,cond_true,List.length_cons,ih]
  ·have hb:Nat.beq b c=false:=by
    rw [← Bool.not_eq_true]; exact fun e=>h (Nat.eq_of_beq_eq_true e)
   rw [if_neg h,hb,cond_false]
   cases hs:spl c s with
   | nil=>exact absurd hs (spl_ne c s)
   | cons x y=>rw [hs] at ih; exact ih
theorem cnt_le (c:Nat):∀ s:Str,cntB c s≤s.length
 | []=>Nat.le_refl _
 | b::s=>by
  have:=cnt_le c s
  unfold cntB
  cases Nat.beq b c <;> simp <;> omega
theorem spl_mem {c:Nat}:∀ {s:Str} {p:Str},p∈spl c s→(∀ b∈p,b∈s)∧c∉p∧p.length≤s.length
 | [],p,h=>by
  have:p=[]:=by simpa [spl] using h
  subst this; simp
 | b::s,p,h=>by
  unfold spl at h
  by_cases hb:b=c
  ·rw [if_pos hb] at h
   rcases List.mem_cons.1 h with rfl | h
   ·simp
   ·obtain ⟨h1,h2,h3⟩:=spl_mem h
    exact ⟨fun x hx => .tail _ (h1 x hx),h2,by simp; omega⟩
  ·rw [if_neg hb] at h
   cases hs:spl c s with
   | nil=>exact absurd hs (spl_ne c s)
   | cons x y=>
    rw [hs] at h
    rcases List.mem_cons.1 h with rfl | h
    ·obtain ⟨h1,h2,h3⟩:=spl_mem (c:=c) (s:=s) (p:=x) (by rw [hs]; exact .head _)
     refine ⟨fun z hz => ?_,?_,by simp; omega⟩
     ·rcases List.mem_cons.1 hz with rfl | hz
      ·exact .head _
      ·exact .tail _ (h1 z hz)
     ·rw [List.mem_cons,not_or]; exact ⟨fun e=>hb e.symm,h2⟩
    ·obtain ⟨h1,h2,h3⟩:=spl_mem (c:=c) (s:=s) (p:=p) (by rw [hs]; exact .tail _ h)
     exact ⟨fun z hz => .tail _ (h1 z hz),h2,by simp; omega⟩
def joi (c:Nat):List Str→Str
 | []=>[]
 | [a]=>a
 | a::b::l=>a++c::joi c (b::l)
theorem spl_joi {c:Nat}:∀ {l:List Str},l≠[]→(∀ p∈l,c∉p)→spl c (joi c l)=l
 | [],h,_=>absurd rfl h
 | [a],_,h=>spl_no (h a (.head _))
 | a::b::l,_,h=>by
  show spl c (a++c::joi c (b::l))=_
  rw [spl_app _ (h a (.head _)),spl_joi (by simp) fun p hp=>h p (.tail _ hp)]
theorem joi_spl (c:Nat):∀ s,joi c (spl c s)=s
 | []=>rfl
 | b::s=>by
  have ih:=joi_spl c s
  unfold spl
  by_cases h:b=c
  ·rw [if_pos h]
   cases hs:spl c s with
   | nil=>exact absurd hs (spl_ne c s)
   | cons x y=>rw [hs] at ih; show []++c::joi c (x::y)=_; rw [ih,h]; rfl
  ·rw [if_neg h]
   cases hs:spl c s with
   | nil=>exact absurd hs (spl_ne c s)
   | cons x y=>
    rw [hs] at ih
    cases y with
    | nil=>show b::x=_; rw [← ih]; rfl
    | cons z w=>show b::x++c::joi c (z::w)=_; rw [← ih]; rfl
end Go.Proofs.YtkhhnpkmblldbaaGreatDoor.DfM
namespace Go.Proofs.YtkhhnpkmblldbaaGreatDoor.DfK
open Go Am Am.K DfEnv DfM
set_option linter.unusedVariables false
set_option linter.unusedSimpArgs false
set_option maxRecDepth 10000
theorem ck_ext {fid:Nat} {k:Ext} {fn:Func} {args:List AV} {H:Hp} {r:AV × Hp} (hp:prim fid=none) (hf:P.funcs[fid]? = some fn) (hb:fn.body=none) (he:ext fid=some k) (h:extA P k args H=some r):cK (.func (.func fid) [] []) args H=some r:=by
 refine CK_fix regK_cont ?_
 unfold callK
 simp only [hp,List.nil_append,List.append_nil,hf,hb,he]
 exact h
def ixo:Option Nat→Int
 | some i=>i
 | none => -1
theorem idxByte_c {c:Nat} (hc:c < 256) (s:Str) (H:Hp):cK (.func (.func 202) [] []) [.str s,.int .u8 c] H=some (.int .i64 (ixo (idxB c s 0)),H):=by
 refine ck_ext (k := .idxByte) (by kernel_rfl) Tryz.func202 rfl (by kernel_rfl) ?_
 show some (AV.int .i64 (match idxB (Int.toNat (c:Int) % 256) s 0 with | some i=>(i:Int) | none => -1),H)=_
 rw [Int.toNat_natCast,Nat.mod_eq_of_lt hc]
 cases idxB c s 0 <;> rfl
theorem count_e {c:Nat} (hc:c < 256) (s:Str) (H:Hp):cK (.func (.func 176) [] []) [.str s,.int .u8 c] H=some (.int .i64 (cntB c s:Nat),H):=by
 refine ck_ext (k := .count) (by kernel_rfl) Tryz.func176 rfl (by kernel_rfl) ?_
 show some (AV.int .i64 (cntB (Int.toNat (c:Int) % 256) s:Nat),H)=_
 rw [Int.toNat_natCast,Nat.mod_eq_of_lt hc]
theorem indexByte_c {c:Nat} (hc:c < 256) (s:Str) (H:Hp):cK (.func (.func 191) [] []) [.str s,.int .u8 c] H=some (.int .i64 (ixo (idxB c s 0)),H):=by
 refine c_internal_stringslite_IndexByte ?_
 unfold s_internal_stringslite_IndexByte
 simp only [idxByte_c hc,k_s,k_x,Int.reduceBEq,Int.reduceBNe,Int.reduceLT,Int.reduceLE,Int.reduceGT,Int.reduceGE,Int.reduceNeg]
theorem indexL_c {c:Nat} (hc:c < 256) (s:Str) (H:Hp):cK (.func (.func 177) [] []) [.str s,.str [c]] H=some (.int .i64 (ixo (idxB c s 0)),H):=by
 refine c_internal_stringslite_Index ?_
 unfold s_internal_stringslite_Index
 have h1:ixs (.str [c]) (.int .i64 0)=some (.int .u8 c):=ixs_0 .i64 rfl
 simp only [indexByte_c hc,h1,List.length_cons,List.length_nil,Int.ofNat_one,Nat.reduceAdd,Int.natCast_one,k_s,k_x,Int.reduceBEq,Int.reduceBNe,Int.reduceLT,Int.reduceLE,Int.reduceGT,Int.reduceGE,Int.reduceNeg]
 rw [CD_b]
 split
 ·rename_i h
  have h:[c]=s:=by simpa using h
  subst h
  unfold idxB
  rw [Nat.beq_refl]; rfl
 ·rfl
theorem index_c {c:Nat} (hc:c < 256) (s:Str) (H:Hp):cK (.func (.func 156) [] []) [.str s,.str [c]] H=some (.int .i64 (ixo (idxB c s 0)),H):=by
 refine c_strings_Index ?_
 unfold s_strings_Index
 simp only [indexL_c hc,k_s,k_x,Int.reduceBEq,Int.reduceBNe,Int.reduceLT,Int.reduceLE,Int.reduceGT,Int.reduceGE,Int.reduceNeg]
theorem count_c {c:Nat} (hc:c < 256) (s:Str) (H:Hp):cK (.func (.func 155) [] []) [.str s,.str [c]] H=some (.int .i64 (cntB c s:Nat),H):=by
 refine c_strings_Count ?_
 unfold s_strings_Count
 have h1:ixs (.str [c]) (.int .i64 0)=some (.int .u8 c):=ixs_0 .i64 rfl
 simp only [count_e hc,h1,List.length_cons,List.length_nil,Int.ofNat_one,Nat.reduceAdd,Int.natCast_one,k_s,k_x,Int.reduceBEq,Int.reduceBNe,Int.reduceLT,Int.reduceLE,Int.reduceGT,Int.reduceGE,Int.reduceNeg]
def cut (c:Nat) (s:Str):Str × Str × Bool:=match idxB c s 0 with
 | some i=>(s.take i,s.drop (i + 1),true)
 | none=>(s,[],false)
theorem cutL_c {c:Nat} (hc:c < 256) {s:Str} (hs:s.length≤1073741824) (H:Hp):cK (.func (.func 157) [] []) [.str s,.str [c]] H=some (.tuple [.str (cut c s).1,.str (cut c s).2.1,.bool (cut c s).2.2],H):=by
 refine c_internal_stringslite_Cut ?_
 unfold s_internal_stringslite_Cut cut
 cases hi:idxB c s 0 with
 | none=>
  have d:decide ((0:Int) ≤ -1)=false:=by decide
  simp only [indexL_c hc,hi,ixo,d,k_s,k_x,Int.reduceBEq,Int.reduceBNe,Int.reduceLT,Int.reduceLE,Int.reduceGT,Int.reduceGE,Int.reduceNeg]
 | some i=>
  obtain ⟨a,r,rfl,rfl,ha⟩:=idxB_some hi
  rw [Nat.zero_add] at hi
  simp only [List.length_append,List.length_cons] at hs
  have d:decide ((0:Int)≤((a.length:Nat):Int))=true:=decide_eq_true (by omega)
  have w:IntKind.wrap .i64 ((a.length:Int) + ((1:Nat):Int))=((a.length + 1:Nat):Int):=by rw [wrap_i64 (by omega) (by omega)]; rfl
  have h1:sls (.str (a++c::r)) none (some (.int .i64 (a.length:Nat)))=some (.str ((a++c::r).take a.length)):=sls_to .i64 (by simp)
  have h2:sls (.str (a++c::r)) (some (.int .i64 (a.length + 1:Nat))) none=some (.str ((a++c::r).drop (a.length + 1))):=sls_from .i64 (by simp)
  simp only [indexL_c hc,hi,ixo,d,h1,h2,w,List.length_cons,List.length_nil,Nat.zero_add,k_s,k_x,Int.reduceBEq,Int.reduceBNe,Int.reduceLT,Int.reduceLE,Int.reduceGT,Int.reduceGE,Int.reduceNeg]
theorem cut_c {c:Nat} (hc:c < 256) {s:Str} (hs:s.length≤1073741824) (H:Hp):cK (.func (.func 122) [] []) [.str s,.str [c]] H=some (.tuple [.str (cut c s).1,.str (cut c s).2.1,.bool (cut c s).2.2],H):=by
 refine c_strings_Cut ?_
 unfold s_strings_Cut
 simp only [cutL_c hc hs,k_s,k_x,Int.reduceBEq,Int.reduceBNe,Int.reduceLT,Int.reduceLE,Int.reduceGT,Int.reduceGE,Int.reduceNeg]
def strs (l:List Str):List AV:=l.map .str
theorem strs_len (l:List Str):(strs l).length=l.length:=by simp [strs]
theorem strs_app (a b:List Str):strs (a++b)=strs a++strs b:=by simp [strs]
theorem strs_get {l:List Str} {j:Nat} {z:Str} (h:l[j]? = some z):(strs l)[j]? = some (.str z):=by simp [strs,h]
theorem split_loop {c:Nat} (hc:c < 256) {A n:Nat} {el:Nat}:∀ (m:Nat) (s:Str) (dn:List Str) (H:Hp),s.length=m→m≤1073741824→n≤1073741824→dn.length + (spl c s).length=n→Cs H A (strs dn++List.replicate (n - dn.length) (AV.str [])) el 0→
  ∃ dn' s' H',(∀ k:K.Fn 3,l_strings_genSplit JN GO cK k (.str s) (.str [c]) (.int .i64 0) (.int .i64 ((n - 1:Nat):Int)) (.slice A 0 n n true 1) (.int .i64 (dn.length:Nat)) H=k (.str s') (.slice A 0 n n true 1) (.int .i64 (dn'.length:Nat)) H')∧
   dn'++[s']=dn++spl c s∧dn'.length < n∧Cs H' A (strs dn'++List.replicate (n - dn'.length) (AV.str [])) el 0∧Out [A] H H':=by
 intro m
 induction m using Nat.strongRecOn with
 | _ m ih=>
 intro s dn H hm hmb hnb hn hC
 have hpos:=spl_len c s
 by_cases hlast:dn.length + 1=n
 ·have hs1:spl c s=[s]:=by
   cases hi:idxB c s 0 with
   | none=>exact spl_no (idxB_none hi)
   | some i=>
    obtain ⟨a,r,rfl,rfl,ha⟩:=idxB_some hi
    have h1:=spl_app (c:=c) r ha
    have h2:=spl_len c r
    rw [h1,List.length_cons] at hn
    omega
  have d:decide (((dn.length:Nat):Int) < ((n - 1:Nat):Int))=false:=decide_eq_false (by omega)
  refine ⟨dn,s,H,fun k => ?_,by rw [hs1],by omega,hC,Out.refl _ _⟩
  rw [ql_strings_genSplit]
  simp only [bl_strings_genSplit,d,k_s,k_x,Int.reduceBEq,Int.reduceBNe,Int.reduceLT,Int.reduceLE,Int.reduceGT,Int.reduceGE,Int.reduceNeg]
 ·have d:decide (((dn.length:Nat):Int) < ((n - 1:Nat):Int))=true:=decide_eq_true (by omega)
  cases hi:idxB c s 0 with
  | none=>
   have hs1:=spl_no (idxB_none hi)
   rw [hs1] at hn
   simp only [List.length_cons,List.length_nil] at hn
   omega
  | some i=>
   obtain ⟨a,r,rfl,rfl,ha⟩:=idxB_some hi
   rw [Nat.zero_add] at hi
   have h1:=spl_app (c:=c) r ha
   rw [h1,List.length_cons] at hn
   simp only [List.length_append,List.length_cons] at hm
   obtain ⟨H1,w1,w2,w3,w4⟩:=st1 hC (by decide) (o:=dn.length) (by rw [List.length_append,strs_len,List.length_replicate]; omega) (v := .str a) rfl
   have hset:(strs dn++List.replicate (n - dn.length) (AV.str [])).set dn.length (AV.str a)=strs (dn++[a])++List.replicate (n - (dn++[a]).length) (AV.str []):=by
    rw [List.set_append_right _ _ (by rw [strs_len]; omega),strs_len,Nat.sub_self,strs_app,List.append_assoc]
    congr 1
    rw [List.length_append,show n - dn.length=(n - (dn.length + [a].length)) + 1 by simp; omega,List.replicate_succ]
    rfl
   rw [hset] at w2
   obtain ⟨dn',s',H',i1,i2,i3,i4,i5⟩:=ih r.length (by omega) r (dn++[a]) H1 rfl (by omega) hnb (by rw [List.length_append]; simp; omega) w2
   have d2:decide ((((a.length:Nat)):Int) < 0)=false:=decide_eq_false (by omega)
   have e1:IntKind.wrap .i64 ((a.length:Int) + 0)=((a.length:Nat):Int):=by rw [wrap_i64 (by omega) (by omega)]; omega
   have e2:IntKind.wrap .i64 ((a.length:Int) + ((1:Nat):Int))=((a.length + 1:Nat):Int):=by rw [wrap_i64 (by omega) (by omega)]; rfl
   have e3:IntKind.wrap .i64 ((dn.length:Int) + 1)=(((dn++[a]).length:Nat):Int):=by rw [wrap_i64 (by omega) (by omega),List.length_append]; rfl
   have q1:sls (.str (a++c::r)) none (some (.int .i64 (a.length:Nat)))=some (.str a):=by rw [sls_to .i64 (by simp)]; simp
   have q2:sls (.str (a++c::r)) (some (.int .i64 (a.length + 1:Nat))) none=some (.str r):=by rw [sls_from .i64 (by simp)]; simp [List.drop_append]
   have q3:ia 1 (.slice A 0 n n true 1) (.int .i64 (dn.length:Nat))=some (.ptr A dn.length):=by rw [ia_s (by omega)]; simp
   refine ⟨dn',s',H',fun k => ?_,by rw [i2,h1,List.append_assoc]; rfl,i3,i4,w3.trans i5⟩
   rw [ql_strings_genSplit]
   simp only [bl_strings_genSplit,d,index_c hc,hi,ixo,d2,e1,q1,q3,w1,List.length_cons,List.length_nil,e2,q2,e3,i1,k_s,k_x,Int.reduceBEq,Int.reduceBNe,Int.reduceLT,Int.reduceLE,Int.reduceGT,Int.reduceGE,Int.reduceNeg]
theorem mks_ok {H:Hp} {z:AV} {el n:Nat} (k j:IntKind) (hn:n≤1048576):mks [z] el 1 (.int k n) (.int j n) H=some (.slice H.next 0 n n true 1,al H (List.replicate n z) el 0):=by
 unfold mks
 have hr:rep n [z]=List.replicate n z:=by
  unfold rep
  induction n with
  | zero=>rfl
  | succ m ih=>rw [List.replicate_succ,List.flatten_cons,ih (by omega),List.replicate_succ]; rfl
 simp only
 rw [if_pos ⟨by omega,by omega,by omega⟩,Int.toNat_natCast,hr,newCells_al (by rw [List.length_replicate]; omega)]
 rfl
theorem genSplit_c {c:Nat} (hc:c < 256) {s:Str} (hs:s.length≤1000000) (H:Hp) :
  ∃ x H',cK (.func (.func 121) [] []) [.str s,.str [c],.int .i64 0,.int .i64 (-1)] H=some (x,H')∧Rw H' 1 x (strs (spl c s))∧Out [] H H'∧∀ j∈rid x,H.next≤j:=by
 have hn:=spl_len c s
 have hle:=cnt_le c s
 have e0:([c] == ([]:List Nat))=false:=rfl
 have e1:IntKind.wrap .i64 ((cntB c s:Int) + 1)=((cntB c s + 1:Nat):Int):=by rw [wrap_i64 (by omega) (by omega)]; rfl
 have e2:IntKind.wrap .i64 ((s.length:Int) + 1)=((s.length + 1:Nat):Int):=by rw [wrap_i64 (by omega) (by omega)]; rfl
 have e3:(if ((s.length + 1:Nat):Int) < ((cntB c s + 1:Nat):Int) then ((s.length + 1:Nat):Int) else ((cntB c s + 1:Nat):Int))=((cntB c s + 1:Nat):Int):=if_neg (by omega)
 have e4:IntKind.wrap .i64 (((cntB c s + 1:Nat):Int) - 1)=((cntB c s + 1 - 1:Nat):Int):=by rw [wrap_i64 (by omega) (by omega)]; omega
 have hm:=mks_ok (H:=H) (z := .str []) (el:=9) (n:=cntB c s + 1) .i64 .i64 (by omega)
 have hC:Cs (al H (List.replicate (cntB c s + 1) (AV.str [])) 9 0) H.next (strs []++List.replicate (cntB c s + 1 - ([]:List Str).length) (AV.str [])) 9 0:=al_cs H _ _ _
 obtain ⟨dn,s',H1,i1,i2,i3,i4,i5⟩:=split_loop hc (n:=cntB c s + 1) s.length s [] _ rfl (by omega) (by omega) (by simp; omega) hC
 obtain ⟨H2,w1,w2,w3,w4⟩:=st1 i4 (by decide) (o:=dn.length) (by rw [List.length_append,strs_len,List.length_replicate]; omega) (v := .str s') rfl
 have hdl:dn.length + 1=cntB c s + 1:=by
  have:=congrArg List.length i2
  simp only [List.length_append,List.length_cons,List.length_nil] at this
  omega
 have hset:(strs dn++List.replicate (cntB c s + 1 - dn.length) (AV.str [])).set dn.length (AV.str s')=strs (spl c s):=by
  rw [List.set_append_right _ _ (by rw [strs_len]; omega),strs_len,Nat.sub_self,show cntB c s + 1 - dn.length=1 by omega]
  have:spl c s=dn++[s']:=by rw [i2]; rfl
  rw [this,strs_app]; rfl
 rw [hset] at w2
 have e5:IntKind.wrap .i64 ((dn.length:Int) + 1)=((cntB c s + 1:Nat):Int):=by rw [wrap_i64 (by omega) (by omega)]; omega
 have q3:ia 1 (.slice H.next 0 (cntB c s + 1) (cntB c s + 1) true 1) (.int .i64 (dn.length:Nat))=some (.ptr H.next dn.length):=by rw [ia_s (by omega)]; simp
 have hrw:Rw H2 1 (.slice H.next 0 (cntB c s + 1) (cntB c s + 1) true 1) (strs (spl c s)) := .mk w2.ro (by rw [strs_len,hn,Nat.mul_one]) (Nat.le_refl _) (by rw [beq_f (Nat.succ_ne_zero _)]; rfl)
 obtain ⟨x,x1,x2,x3⟩:=sll_rw (n:=cntB c s + 1) hrw (by rw [strs_len,hn,Nat.mul_one]) (by decide) (a:=0) (b:=cntB c s + 1) (lo:=none) (hi:=some (.int .i64 (cntB c s + 1:Nat))) (by omega) (Nat.le_refl _) (Bd.no 0) (Bd.yes _ _ _)
 rw [Nat.zero_mul,List.drop_zero,Nat.sub_zero,Nat.mul_one,List.take_of_length_le (by rw [strs_len]; omega)] at x2
 refine ⟨x,H2,c_strings_genSplit ?_,x2,?_,fun j hj => ?_⟩
 ·unfold s_strings_genSplit
  have i1':=i1
  simp only [List.length_nil] at i1'
  rw [show (((0:Nat):Int))=0 from rfl] at i1'
  simp only [e0,count_c hc,e1,e2,min_i,e3,hm,e4,i1',q3,w1,e5,x1,k_s,k_x,Int.reduceBEq,Int.reduceBNe,Int.reduceLT,Int.reduceLE,Int.reduceGT,Int.reduceGE,Int.reduceNeg]
 ·have:Out [H.next] (al H (List.replicate (cntB c s + 1) (AV.str [])) 9 0) H2:=i5.trans w3
  exact (al_out H _ _ _).then this fun j hj=>by rw [List.mem_singleton] at hj; exact .inr (by omega)
 ·have:=x3 j hj
  rw [rid_s (by rw [beq_f (Nat.succ_ne_zero _)]; rfl)] at this
  rw [List.mem_singleton] at this; omega
theorem split_c {c:Nat} (hc:c < 256) {s:Str} (hs:s.length≤1000000) (H:Hp) :
  ∃ x H',cK (.func (.func 93) [] []) [.str s,.str [c]] H=some (x,H')∧Rw H' 1 x (strs (spl c s))∧Out [] H H'∧∀ j∈rid x,H.next≤j:=by
 obtain ⟨x,H',h1,h2⟩:=genSplit_c hc hs H
 refine ⟨x,H',c_strings_Split ?_,h2⟩
 unfold s_strings_Split
 simp only [h1,k_s,k_x,Int.reduceBEq,Int.reduceBNe,Int.reduceLT,Int.reduceLE,Int.reduceGT,Int.reduceGE,Int.reduceNeg]
def ints (l:List Int):List AV:=l.map fun z => .int .i64 z
theorem ints_len (l:List Int):(ints l).length=l.length:=by simp [ints]
theorem ints_one (l:List Int):∀ v∈ints l,oneC v=true:=by
 intro v hv
 obtain ⟨b,_,rfl⟩:=List.mem_map.1 hv
 rfl
theorem ints_app (a b:List Int):ints (a++b)=ints a++ints b:=by simp [ints]
theorem ints_get {l:List Int} {j:Nat} {z:Int} (h:l[j]? = some z):(ints l)[j]? = some (.int .i64 z):=by simp [ints,h]
theorem ixo_ge (o:Option Nat):decide ((0:Int)≤ixo o)=o.isSome:=by
 cases o with
 | none=>rfl
 | some i=>exact decide_eq_true (by show (0:Int)≤(i:Int); omega)
theorem wrap_s {i n:Nat} (h:i < n) (hn:n≤16777216):IntKind.wrap .i64 ((i:Int) + 1)=((i + 1:Nat):Int):=by rw [wrap_i64 (by omega) (by omega)]; rfl
theorem lt_t {i n:Nat} (h:i < n):decide (((i:Nat):Int) < ((n:Nat):Int))=true:=decide_eq_true (by omega)
theorem lt_f {n:Nat}:decide (((n:Nat):Int) < ((n:Nat):Int))=false:=decide_eq_false (by omega)
theorem drop_nil {α:Type} {l:List α} {i:Nat} (hi:i≤l.length) (h:l.drop i=[]):i=l.length:=by
 have:=congrArg List.length h
 rw [List.length_drop,List.length_nil] at this; omega
theorem indexstring_loop {x:AV} {l:List Str} {s:Str} {H:Hp} (hx:Rw H 1 x (strs l)) (hl:l.length≤16777216) (k:K.Fn 0):∀ (r:List Str) (i:Nat),i≤l.length→l.drop i=r→
  l_slices_Index___string_string_ JN GO cK k x (.str s) (.int .i64 (l.length:Nat)) (.int .i64 (i:Nat)) H=match r.findIdx? (fun a=>s == a) with | some j=>some (.int .i64 ((i + j:Nat):Int),H) | none=>k H
 | [],i,hi,h=>by
  obtain rfl:=drop_nil hi h
  rw [ql_slices_Index___string_string_]
  simp only [bl_slices_Index___string_string_,lt_f,List.findIdx?_nil,k_s,k_x,simprocAttr]
 | a::r,i,hi,h=>by
  obtain ⟨h1,h2,h3⟩:=hd_drop h
  obtain ⟨q,q1,q2⟩:=hx.ia1 (strs_get h2) .i64
  have e:=wrap_s h1 hl
  have ih:=indexstring_loop (s:=s) hx hl k r (i + 1) h1 h3
  rw [ql_slices_Index___string_string_]
  simp only [bl_slices_Index___string_string_,lt_t h1,q1,q2,e,ih,CD_b,List.findIdx?_cons,k_s,k_x,simprocAttr]
  cases hb:(s == a) with
  | true=>simp
  | false=>
   cases hf:r.findIdx? (fun a=>s == a) with
   | none=>simp
   | some j=>simp; omega
theorem indexstring_c {x:AV} {l:List Str} {H:Hp} (hx:Rw H 1 x (strs l)) (hl:l.length≤16777216) (s:Str):cK (.func (.func 109) [] []) [x,.str s] H=some (.int .i64 (ixo (l.findIdx? (fun a=>s == a))),H):=by
 refine c_slices_Index___string_string_ ?_
 unfold s_slices_Index___string_string_
 have h1:=hx.len1
 rw [strs_len] at h1
 have h2:=fun k=>indexstring_loop (s:=s) hx hl k l 0 (Nat.zero_le _) List.drop_zero
 rw [show (((0:Nat):Int))=0 from rfl] at h2
 simp only [h1,h2,k_s,k_x,simprocAttr]
 cases l.findIdx? (fun a=>s == a) <;> rfl
theorem containsstring_c {x:AV} {l:List Str} {H:Hp} (hx:Rw H 1 x (strs l)) (hl:l.length≤16777216) (s:Str):cK (.func (.func 99) [] []) [x,.str s] H=some (.bool (l.any (fun a=>s == a)),H):=by
 refine c_slices_Contains___string_string_ ?_
 unfold s_slices_Contains___string_string_
 simp only [indexstring_c hx hl,ixo_ge,List.findIdx?_isSome,k_s,k_x,simprocAttr]
theorem indexint_loop {x:AV} {l:List Int} {s:Int} {H:Hp} (hx:Rw H 1 x (ints l)) (hl:l.length≤16777216) (k:K.Fn 0):∀ (r:List Int) (i:Nat),i≤l.length→l.drop i=r→
  l_slices_Index___int_int_ JN GO cK k x (.int .i64 s) (.int .i64 (l.length:Nat)) (.int .i64 (i:Nat)) H=match r.findIdx? (fun a=>s == a) with | some j=>some (.int .i64 ((i + j:Nat):Int),H) | none=>k H
 | [],i,hi,h=>by
  obtain rfl:=drop_nil hi h
  rw [ql_slices_Index___int_int_]
  simp only [bl_slices_Index___int_int_,lt_f,List.findIdx?_nil,k_s,k_x,simprocAttr]
 | a::r,i,hi,h=>by
  obtain ⟨h1,h2,h3⟩:=hd_drop h
  obtain ⟨q,q1,q2⟩:=hx.ia1 (ints_get h2) .i64
  have e:=wrap_s h1 hl
  have ih:=indexint_loop (s:=s) hx hl k r (i + 1) h1 h3
  rw [ql_slices_Index___int_int_]
  simp only [bl_slices_Index___int_int_,lt_t h1,q1,q2,e,ih,CD_b,List.findIdx?_cons,k_s,k_x,simprocAttr]
  cases hb:(s == a) with
  | true=>simp
  | false=>
   cases hf:r.findIdx? (fun a=>s == a) with
   | none=>simp
   | some j=>simp; omega
theorem indexint_c {x:AV} {l:List Int} {H:Hp} (hx:Rw H 1 x (ints l)) (hl:l.length≤16777216) (s:Int):cK (.func (.func 179) [] []) [x,.int .i64 s] H=some (.int .i64 (ixo (l.findIdx? (fun a=>s == a))),H):=by
 refine c_slices_Index___int_int_ ?_
 unfold s_slices_Index___int_int_
 have h1:=hx.len1
 rw [ints_len] at h1
 have h2:=fun k=>indexint_loop (s:=s) hx hl k l 0 (Nat.zero_le _) List.drop_zero
 rw [show (((0:Nat):Int))=0 from rfl] at h2
 simp only [h1,h2,k_s,k_x,simprocAttr]
 cases l.findIdx? (fun a=>s == a) <;> rfl
theorem containsint_c {x:AV} {l:List Int} {H:Hp} (hx:Rw H 1 x (ints l)) (hl:l.length≤16777216) (s:Int):cK (.func (.func 159) [] []) [x,.int .i64 s] H=some (.bool (l.any (fun a=>s == a)),H):=by
 refine c_slices_Contains___int_int_ ?_
 unfold s_slices_Contains___int_int_
 simp only [indexint_c hx hl,ixo_ge,List.findIdx?_isSome,k_s,k_x,simprocAttr]
theorem indexFuncint_loop {x fv:AV} {l:List Int} {p:Int→Bool} {H0:Hp} (hx:Rw H0 1 x (ints l)) (hl:l.length≤16777216) (hp:∀ H,Out [] H0 H→∀ a∈l,∃ H',cK fv [.int .i64 a] H=some (.bool (p a),H')∧Out [] H H'):∀ (r:List Int) (i:Nat) (H:Hp),Out [] H0 H→i≤l.length→l.drop i=r→
  ∃ H',Out [] H H'∧∀ k:K.Fn 0,l_slices_IndexFunc___int_int_ JN GO cK k x fv (.int .i64 (l.length:Nat)) (.int .i64 (i:Nat)) H=match r.findIdx? p with | some j=>some (.int .i64 ((i + j:Nat):Int),H') | none=>k H'
 | [],i,H,ho,hi,h=>by
  obtain rfl:=drop_nil hi h
  refine ⟨H,Out.refl _ _,fun k => ?_⟩
  rw [ql_slices_IndexFunc___int_int_]
  simp only [bl_slices_IndexFunc___int_int_,lt_f,List.findIdx?_nil,k_s,k_x,simprocAttr]
 | a::r,i,H,ho,hi,h=>by
  obtain ⟨h1,h2,h3⟩:=hd_drop h
  obtain ⟨q,q1,q2⟩:=(hx.out0 ho).ia1 (ints_get h2) .i64
  have e:=wrap_s h1 hl
  obtain ⟨H1,p1,p2⟩:=hp H ho a (List.mem_of_getElem? h2)
  cases hb:p a with
  | true=>
   refine ⟨H1,p2,fun k => ?_⟩
   rw [ql_slices_IndexFunc___int_int_]
   simp only [bl_slices_IndexFunc___int_int_,lt_t h1,q1,q2,p1,hb,List.findIdx?_cons,if_true,Nat.add_zero,k_s,k_x,simprocAttr]
  | false=>
   obtain ⟨H',i1,i2⟩:=indexFuncint_loop hx hl hp r (i + 1) H1 (ho.trans p2) h1 h3
   refine ⟨H',p2.trans i1,fun k => ?_⟩
   rw [ql_slices_IndexFunc___int_int_]
   simp only [bl_slices_IndexFunc___int_int_,lt_t h1,q1,q2,p1,hb,e,i2,List.findIdx?_cons,k_s,k_x,simprocAttr]
   cases hf:r.findIdx? p with
   | none=>simp
   | some j=>simp; omega
theorem containsFuncint_c {x fv:AV} {l:List Int} {p:Int→Bool} {H0:Hp} (hx:Rw H0 1 x (ints l)) (hl:l.length≤16777216) (hp:∀ H,Out [] H0 H→∀ a∈l,∃ H',cK fv [.int .i64 a] H=some (.bool (p a),H')∧Out [] H H') :
  ∃ H',cK (.func (.func 148) [] []) [x,fv] H0=some (.bool (l.any p),H')∧Out [] H0 H':=by
 obtain ⟨H',h1,h2⟩:=indexFuncint_loop hx hl hp l 0 H0 (Out.refl _ _) (Nat.zero_le _) List.drop_zero
 rw [show (((0:Nat):Int))=0 from rfl] at h2
 have hn:=hx.len1
 rw [ints_len] at hn
 have:cK (.func (.func 168) [] []) [x,fv] H0=some (.int .i64 (ixo (l.findIdx? p)),H'):=by
  refine c_slices_IndexFunc___int_int_ ?_
  unfold s_slices_IndexFunc___int_int_
  simp only [hn,h2,k_s,k_x,simprocAttr]
  cases l.findIdx? p <;> simp [ixo]
 refine ⟨H',c_slices_ContainsFunc___int_int_ ?_,h1⟩
 unfold s_slices_ContainsFunc___int_int_
 simp only [this,ixo_ge,List.findIdx?_isSome,k_s,k_x,simprocAttr]
theorem indexFuncTask_loop {x fv:AV} {L:List (List AV)} {p:List AV→Bool} {H0:Hp} (hx:RL H0 6 x L) (hl:L.length≤16777216) (hp:∀ H,Out [] H0 H→∀ a∈L,∃ H',cK fv [.agg a] H=some (.bool (p a),H')∧Out [] H H'):∀ (r:List (List AV)) (i:Nat) (H:Hp),Out [] H0 H→i≤L.length→L.drop i=r→
  ∃ H',Out [] H H'∧∀ k:K.Fn 0,l_slices_IndexFunc___def_Task_def_Task_ JN GO cK k x fv (.int .i64 (L.length:Nat)) (.int .i64 (i:Nat)) H=match r.findIdx? p with | some j=>some (.int .i64 ((i + j:Nat):Int),H') | none=>k H'
 | [],i,H,ho,hi,h=>by
  obtain rfl:=drop_nil hi h
  refine ⟨H,Out.refl _ _,fun k => ?_⟩
  rw [ql_slices_IndexFunc___def_Task_def_Task_]
  simp only [bl_slices_IndexFunc___def_Task_def_Task_,lt_f,List.findIdx?_nil,k_s,k_x,simprocAttr]
 | a::r,i,H,ho,hi,h=>by
  obtain ⟨h1,h2,h3⟩:=hd_drop h
  obtain ⟨b,o,q1,_,_,q2,_⟩:=(hx.out0 ho).at (by decide) h2
  have e:=wrap_s h1 hl
  obtain ⟨H1,p1,p2⟩:=hp H ho a (List.mem_of_getElem? h2)
  cases hb:p a with
  | true=>
   refine ⟨H1,p2,fun k => ?_⟩
   rw [ql_slices_IndexFunc___def_Task_def_Task_]
   simp only [bl_slices_IndexFunc___def_Task_def_Task_,lt_t h1,q1,lda_p,q2,Option.map_some,p1,hb,List.findIdx?_cons,if_true,Nat.add_zero,k_s,k_x,simprocAttr]
  | false=>
   obtain ⟨H',i1,i2⟩:=indexFuncTask_loop hx hl hp r (i + 1) H1 (ho.trans p2) h1 h3
   refine ⟨H',p2.trans i1,fun k => ?_⟩
   rw [ql_slices_IndexFunc___def_Task_def_Task_]
   simp only [bl_slices_IndexFunc___def_Task_def_Task_,lt_t h1,q1,lda_p,q2,Option.map_some,p1,hb,e,i2,List.findIdx?_cons,k_s,k_x,simprocAttr]
   cases hf:r.findIdx? p with
   | none=>simp
   | some j=>simp; omega
theorem containsFuncTask_c {x fv:AV} {L:List (List AV)} {p:List AV→Bool} {H0:Hp} (hx:RL H0 6 x L) (hl:L.length≤16777216) (hp:∀ H,Out [] H0 H→∀ a∈L,∃ H',cK fv [.agg a] H=some (.bool (p a),H')∧Out [] H H') :
  ∃ H',cK (.func (.func 100) [] []) [x,fv] H0=some (.bool (L.any p),H')∧Out [] H0 H':=by
 obtain ⟨H',h1,h2⟩:=indexFuncTask_loop hx hl hp L 0 H0 (Out.refl _ _) (Nat.zero_le _) List.drop_zero
 rw [show (((0:Nat):Int))=0 from rfl] at h2
 have hn:=hx.len (by decide)
 have:cK (.func (.func 140) [] []) [x,fv] H0=some (.int .i64 (ixo (L.findIdx? p)),H'):=by
  refine c_slices_IndexFunc___def_Task_def_Task_ ?_
  unfold s_slices_IndexFunc___def_Task_def_Task_
  simp only [hn,h2,k_s,k_x,simprocAttr]
  cases L.findIdx? p <;> simp [ixo]
 refine ⟨H',c_slices_ContainsFunc___def_Task_def_Task_ ?_,h1⟩
 unfold s_slices_ContainsFunc___def_Task_def_Task_
 simp only [this,ixo_ge,List.findIdx?_isSome,k_s,k_x,simprocAttr]
theorem cloneInt_c {H:Hp} {x:AV} {l:List AV} (hx:Rw H 1 x l) (ho:∀ v∈l,oneC v=true) (hl:l.length≤16777216) :
  ∃ y H',cK (.func (.func 142) [] []) [x] H=some (y,H')∧Ow H' 3 1 y l∧Out [] H H'∧(∀ j∈rid y,H.next≤j)∧(x = .slice0→y = .slice0):=by
 have hu:P.underlying 105=some (.slice 3):=Tryz.underlying105
 by_cases h0:x = .slice0
 ·subst h0
  have:l=[]:=by cases hx; rfl
  subst this
  refine ⟨.slice0,H,c_slices_Clone___int_int_ ?_,.nil,Out.refl _ _,fun j hj=>by simp [rid] at hj,fun _=>rfl⟩
  unfold s_slices_Clone___int_int_
  simp only [gA_e0,IFT_t,nilS_t hu,k_s,k_x,simprocAttr]
 ·obtain ⟨y,H',h1,h2,h3,h4⟩:=copy_ok (el:=3) (el2:=3) (z:=[(.int .i64 0)]) hx ho (by decide) hl
  refine ⟨y,H',c_slices_Clone___int_int_ ?_,h2,h3,h4,fun q=>absurd q h0⟩
  have hq:∃ i o n c ex es',x = .slice i o n c ex es':=by
   cases hx with
   | nil=>exact absurd rfl h0
   | emp=>exact ⟨_,_,_,_,_,_,rfl⟩
   | mk _ _ _ _=>exact ⟨_,_,_,_,_,_,rfl⟩
  obtain ⟨i,o,n,c,ex,es',rfl⟩:=hq
  unfold s_slices_Clone___int_int_
  have hnc:newCells H [] 3 0=some (H.next,al H [] 3 0):=newCells_al (by simp)
  simp only [gA_es,IFT_t,nilS_f hu,fl_nil,hnc,h1,k_s,k_x,simprocAttr]
theorem cloneStr_c {H:Hp} {x:AV} {l:List AV} (hx:Rw H 1 x l) (ho:∀ v∈l,oneC v=true) (hl:l.length≤16777216) :
  ∃ y H',cK (.func (.func 43) [] []) [x] H=some (y,H')∧Ow H' 9 1 y l∧Out [] H H'∧(∀ j∈rid y,H.next≤j)∧(x = .slice0→y = .slice0):=by
 have hu:P.underlying 52=some (.slice 9):=Tryz.underlying52
 by_cases h0:x = .slice0
 ·subst h0
  have:l=[]:=by cases hx; rfl
  subst this
  refine ⟨.slice0,H,c_slices_Clone___string_string_ ?_,.nil,Out.refl _ _,fun j hj=>by simp [rid] at hj,fun _=>rfl⟩
  unfold s_slices_Clone___string_string_
  simp only [gA_e0,IFT_t,nilS_t hu,k_s,k_x,simprocAttr]
 ·obtain ⟨y,H',h1,h2,h3,h4⟩:=copy_ok (el:=9) (el2:=9) (z:=[(.str [])]) hx ho (by decide) hl
  refine ⟨y,H',c_slices_Clone___string_string_ ?_,h2,h3,h4,fun q=>absurd q h0⟩
  have hq:∃ i o n c ex es',x = .slice i o n c ex es':=by
   cases hx with
   | nil=>exact absurd rfl h0
   | emp=>exact ⟨_,_,_,_,_,_,rfl⟩
   | mk _ _ _ _=>exact ⟨_,_,_,_,_,_,rfl⟩
  obtain ⟨i,o,n,c,ex,es',rfl⟩:=hq
  unfold s_slices_Clone___string_string_
  have hnc:newCells H [] 9 0=some (H.next,al H [] 9 0):=newCells_al (by simp)
  simp only [gA_es,IFT_t,nilS_f hu,fl_nil,hnc,h1,k_s,k_x,simprocAttr]
theorem cloneTask_c {H:Hp} {x:AV} {l:List AV} (hx:Rw H 6 x l) (ho:∀ v∈l,oneC v=true) (hl:l.length≤16777216) :
  ∃ y H',cK (.func (.func 141) [] []) [x] H=some (y,H')∧Ow H' 107 6 y l∧Out [] H H'∧(∀ j∈rid y,H.next≤j)∧(x = .slice0→y = .slice0):=by
 have hu:P.underlying 57=some (.slice 107):=Tryz.underlying57
 by_cases h0:x = .slice0
 ·subst h0
  have:l=[]:=by cases hx; rfl
  subst this
  refine ⟨.slice0,H,c_slices_Clone___def_Task_def_Task_ ?_,.nil,Out.refl _ _,fun j hj=>by simp [rid] at hj,fun _=>rfl⟩
  unfold s_slices_Clone___def_Task_def_Task_
  simp only [gA_e0,IFT_t,nilS_t hu,k_s,k_x,simprocAttr]
 ·obtain ⟨y,H',h1,h2,h3,h4⟩:=copy_ok (el:=107) (el2:=107) (z:=[(.str []),.slice0,(.int .i64 0),(.int .i64 0),(.int .i64 0),(.str [])]) hx ho (by decide) hl
  refine ⟨y,H',c_slices_Clone___def_Task_def_Task_ ?_,h2,h3,h4,fun q=>absurd q h0⟩
  have hq:∃ i o n c ex es',x = .slice i o n c ex es':=by
   cases hx with
   | nil=>exact absurd rfl h0
   | emp=>exact ⟨_,_,_,_,_,_,rfl⟩
   | mk _ _ _ _=>exact ⟨_,_,_,_,_,_,rfl⟩
  obtain ⟨i,o,n,c,ex,es',rfl⟩:=hq
  unfold s_slices_Clone___def_Task_def_Task_
  have hnc:newCells H [] 107 0=some (H.next,al H [] 107 0):=newCells_al (by simp)
  simp only [gA_es,IFT_t,nilS_f hu,fl_nil,hnc,h1,k_s,k_x,simprocAttr]
theorem cloneRTask_c {H:Hp} {x:AV} {l:List AV} (hx:Rw H 4 x l) (ho:∀ v∈l,oneC v=true) (hl:l.length≤16777216) :
  ∃ y H',cK (.func (.func 143) [] []) [x] H=some (y,H')∧Ow H' 126 4 y l∧Out [] H H'∧(∀ j∈rid y,H.next≤j)∧(x = .slice0→y = .slice0):=by
 have hu:P.underlying 60=some (.slice 126):=Tryz.underlying60
 by_cases h0:x = .slice0
 ·subst h0
  have:l=[]:=by cases hx; rfl
  subst this
  refine ⟨.slice0,H,c_slices_Clone___run_Task_run_Task_ ?_,.nil,Out.refl _ _,fun j hj=>by simp [rid] at hj,fun _=>rfl⟩
  unfold s_slices_Clone___run_Task_run_Task_
  simp only [gA_e0,IFT_t,nilS_t hu,k_s,k_x,simprocAttr]
 ·obtain ⟨y,H',h1,h2,h3,h4⟩:=copy_ok (el:=126) (el2:=126) (z:=[(.int .i64 0),(.int .i64 0),(.int .i64 0),(.str [])]) hx ho (by decide) hl
  refine ⟨y,H',c_slices_Clone___run_Task_run_Task_ ?_,h2,h3,h4,fun q=>absurd q h0⟩
  have hq:∃ i o n c ex es',x = .slice i o n c ex es':=by
   cases hx with
   | nil=>exact absurd rfl h0
   | emp=>exact ⟨_,_,_,_,_,_,rfl⟩
   | mk _ _ _ _=>exact ⟨_,_,_,_,_,_,rfl⟩
  obtain ⟨i,o,n,c,ex,es',rfl⟩:=hq
  unfold s_slices_Clone___run_Task_run_Task_
  have hnc:newCells H [] 126 0=some (H.next,al H [] 126 0):=newCells_al (by simp)
  simp only [gA_es,IFT_t,nilS_f hu,fl_nil,hnc,h1,k_s,k_x,simprocAttr]
theorem equalstring_loop {x y:AV} {l m:List Str} {H:Hp} (hx:Rw H 1 x (strs l)) (hy:Rw H 1 y (strs m)) (hl:l.length≤16777216) (hlm:l.length=m.length) (k:K.Fn 0):∀ (r:List Str) (i:Nat),i≤l.length→l.drop i=r→
  l_slices_Equal___string_string_ JN GO cK k x y (.int .i64 (l.length:Nat)) (.int .i64 (i:Nat)) H=if r=m.drop i then k H else some (.bool false,H)
 | [],i,hi,h=>by
  obtain rfl:=drop_nil hi h
  rw [ql_slices_Equal___string_string_]
  have:m.drop l.length=[]:=List.drop_eq_nil_of_le (by omega)
  simp only [bl_slices_Equal___string_string_,lt_f,this,if_true,k_s,k_x,simprocAttr]
 | a::r,i,hi,h=>by
  obtain ⟨h1,h2,h3⟩:=hd_drop h
  obtain ⟨q,q1,q2⟩:=hx.ia1 (strs_get h2) .i64
  obtain ⟨b,hm⟩:∃ b,m[i]? = some b:=⟨_,List.getElem?_eq_getElem (by omega)⟩
  obtain ⟨p,p1,p2⟩:=hy.ia1 (strs_get hm) .i64
  have e:=wrap_s h1 hl
  have ih:=equalstring_loop hx hy hl hlm k r (i + 1) h1 h3
  have hd:m.drop i=b::m.drop (i + 1):=by
   obtain ⟨w1,w2⟩:=List.getElem?_eq_some_iff.1 hm
   rw [List.drop_eq_getElem_cons w1,w2]
  rw [ql_slices_Equal___string_string_,hd]
  generalize m.drop (i + 1)=t at ih
  simp only [bl_slices_Equal___string_string_,lt_t h1,q1,q2,p1,p2,e,ih,CD_b,k_s,k_x,simprocAttr]
  by_cases hb:a=b
  ·subst hb; simp
  ·simp [hb]
theorem equalstring_c {x y:AV} {l m:List Str} {H:Hp} (hx:Rw H 1 x (strs l)) (hy:Rw H 1 y (strs m)) (hl:l.length≤16777216):cK (.func (.func 70) [] []) [x,y] H=some (.bool (decide (l=m)),H):=by
 refine c_slices_Equal___string_string_ ?_
 unfold s_slices_Equal___string_string_
 have h1:=hx.len1
 rw [strs_len] at h1
 have h2:=hy.len1
 rw [strs_len] at h2
 by_cases hlm:l.length=m.length
 ·have h3:=fun k=>equalstring_loop hx hy hl hlm k l 0 (Nat.zero_le _) List.drop_zero
  rw [show (((0:Nat):Int))=0 from rfl] at h3
  have hne:(((l.length:Nat):Int) != ((m.length:Nat):Int))=false:=by simp [hlm]
  simp only [h1,h2,hne,h3,List.drop_zero,k_s,k_x,simprocAttr]
  by_cases hb:l=m <;> simp [hb]
 ·have hne:(((l.length:Nat):Int) != ((m.length:Nat):Int))=true:=by simp; omega
  have hb:l≠m:=fun e=>hlm (by rw [e])
  simp only [h1,h2,hne,hb,k_s,k_x,simprocAttr]
theorem equalint_loop {x y:AV} {l m:List Int} {H:Hp} (hx:Rw H 1 x (ints l)) (hy:Rw H 1 y (ints m)) (hl:l.length≤16777216) (hlm:l.length=m.length) (k:K.Fn 0):∀ (r:List Int) (i:Nat),i≤l.length→l.drop i=r→
  l_slices_Equal___int_int_ JN GO cK k x y (.int .i64 (l.length:Nat)) (.int .i64 (i:Nat)) H=if r=m.drop i then k H else some (.bool false,H)
 | [],i,hi,h=>by
  obtain rfl:=drop_nil hi h
  rw [ql_slices_Equal___int_int_]
  have:m.drop l.length=[]:=List.drop_eq_nil_of_le (by omega)
  simp only [bl_slices_Equal___int_int_,lt_f,this,if_true,k_s,k_x,simprocAttr]
 | a::r,i,hi,h=>by
  obtain ⟨h1,h2,h3⟩:=hd_drop h
  obtain ⟨q,q1,q2⟩:=hx.ia1 (ints_get h2) .i64
  obtain ⟨b,hm⟩:∃ b,m[i]? = some b:=⟨_,List.getElem?_eq_getElem (by omega)⟩
  obtain ⟨p,p1,p2⟩:=hy.ia1 (ints_get hm) .i64
  have e:=wrap_s h1 hl
  have ih:=equalint_loop hx hy hl hlm k r (i + 1) h1 h3
  have hd:m.drop i=b::m.drop (i + 1):=by
   obtain ⟨w1,w2⟩:=List.getElem?_eq_some_iff.1 hm
   rw [List.drop_eq_getElem_cons w1,w2]
  rw [ql_slices_Equal___int_int_,hd]
  generalize m.drop (i + 1)=t at ih
  simp only [bl_slices_Equal___int_int_,lt_t h1,q1,q2,p1,p2,e,ih,CD_b,k_s,k_x,simprocAttr]
  by_cases hb:a=b
  ·subst hb; simp
  ·simp [hb]
theorem equalint_c {x y:AV} {l m:List Int} {H:Hp} (hx:Rw H 1 x (ints l)) (hy:Rw H 1 y (ints m)) (hl:l.length≤16777216):cK (.func (.func 68) [] []) [x,y] H=some (.bool (decide (l=m)),H):=by
 refine c_slices_Equal___int_int_ ?_
 unfold s_slices_Equal___int_int_
 have h1:=hx.len1
 rw [ints_len] at h1
 have h2:=hy.len1
 rw [ints_len] at h2
 by_cases hlm:l.length=m.length
 ·have h3:=fun k=>equalint_loop hx hy hl hlm k l 0 (Nat.zero_le _) List.drop_zero
  rw [show (((0:Nat):Int))=0 from rfl] at h3
  have hne:(((l.length:Nat):Int) != ((m.length:Nat):Int))=false:=by simp [hlm]
  simp only [h1,h2,hne,h3,List.drop_zero,k_s,k_x,simprocAttr]
  by_cases hb:l=m <;> simp [hb]
 ·have hne:(((l.length:Nat):Int) != ((m.length:Nat):Int))=true:=by simp; omega
  have hb:l≠m:=fun e=>hlm (by rw [e])
  simp only [h1,h2,hne,hb,k_s,k_x,simprocAttr]
end Go.Proofs.YtkhhnpkmblldbaaGreatDoor.DfK
namespace Go.Proofs.YtkhhnpkmblldbaaGreatDoor.DfK
open Go Am Am.K DfEnv DfM LibP
set_option linter.unusedVariables false
set_option linter.unusedSimpArgs false
set_option maxRecDepth 10000
structure Gl (H:Hp):Prop where
 pow:∀ i:Nat,i < 20→cellAt H 0 i=some (.int .u64 ((10 ^ i:Nat):Int))
 err:ErrA H
 nx:11≤H.next
theorem hasT_cell {H:Hp} {L:List (Nat × List AV)} (h:hasT H L) {g:Nat} {l:List AV} (hm:(g,l)∈L) {k:Nat} {v:AV} (hk:l[k]? = some v):cellAt H g k=some v:=by
 obtain ⟨el,h⟩:=h
 have h1:=h g l hm
 have hkl:=(List.getElem?_eq_some_iff.1 hk).1
 unfold cellAt
 rw [h1]
 have hb:(Nat.ble 0 k && Nat.blt k l.length)=true:=by
  rw [Bool.and_eq_true,Nat.ble_eq,Nat.blt_eq]; omega
 simp only [hb,cond_true]
 rw [get_puts_k,if_pos (by omega)]
 exact hk
theorem pow_at:∀ i:Fin 20,(pow10.map (AV.int .u64))[i.val]? = some (.int .u64 ((10 ^ i.val:Nat):Int)):=by
 intro i
 match i with
 | ⟨0,_⟩=>rfl
 | ⟨1,_⟩=>rfl
 | ⟨2,_⟩=>rfl
 | ⟨3,_⟩=>rfl
 | ⟨4,_⟩=>rfl
 | ⟨5,_⟩=>rfl
 | ⟨6,_⟩=>rfl
 | ⟨7,_⟩=>rfl
 | ⟨8,_⟩=>rfl
 | ⟨9,_⟩=>rfl
 | ⟨10,_⟩=>rfl
 | ⟨11,_⟩=>rfl
 | ⟨12,_⟩=>rfl
 | ⟨13,_⟩=>rfl
 | ⟨14,_⟩=>rfl
 | ⟨15,_⟩=>rfl
 | ⟨16,_⟩=>rfl
 | ⟨17,_⟩=>rfl
 | ⟨18,_⟩=>rfl
 | ⟨19,_⟩=>rfl
 | ⟨n + 20,h⟩=>omega
theorem Gl.of {H:Hp} (h:hasT H begin0) (hn:11≤H.next):Gl H where
 pow:=fun i hi=>hasT_cell h (l:=pow10.map (AV.int .u64)) (by unfold begin0; simp) (pow_at ⟨i,hi⟩)
 err:=⟨⟨_,_,hasT_cell h (g:=6) (k:=0) (by unfold begin0; simp; rfl) rfl⟩,⟨_,_,hasT_cell h (g:=7) (k:=0) (by unfold begin0; simp; rfl) rfl⟩⟩
 nx:=hn
theorem Gl.out {H H':Hp} {S:List Nat} (h:Gl H) (k:Out S H H') (hs:∀ j∈S,11≤j):Gl H' where
 pow:=fun i hi=>by
  rw [k.cellAt (by have:=h.nx; omega) (fun q=>by have:=hs _ q; omega)]
  exact h.pow i hi
 err:=by
  have hn:=h.nx
  refine ⟨?_,?_⟩
  ·obtain ⟨t,p,q⟩:=h.err.syn
   exact ⟨t,p,by rw [k.cellAt (by omega) (fun q=>by have:=hs _ q; omega)]; exact q⟩
  ·obtain ⟨t,p,q⟩:=h.err.rng
   exact ⟨t,p,by rw [k.cellAt (by omega) (fun q=>by have:=hs _ q; omega)]; exact q⟩
 nx:=Nat.le_trans h.nx k.1
theorem Gl.out0 {H H':Hp} (h:Gl H) (k:Out [] H H'):Gl H':=h.out k fun j hj=>by cases hj
theorem trim_c (s c:List Nat) (H:Hp) (hs:s.length≤4294967296) (hc:lowC c=true) (hcl:c.length≤4294967280):cK (.func (.func 96) [] []) [.str s,.str c] H=some (.str (trimN s c),H):=by
 refine ck_prim (p:=trimP) (by kernel_rfl) ?_
 have h2:F.bothB (lowC c) (F.bothB (Nat.ble (F.lenL s) 4294967296) (Nat.ble (F.lenL c) 4294967280))=true:=by
  rw [F.bothB_eq,F.bothB_eq,F.lenL_eq,F.lenL_eq,hc]
  simp only [Bool.true_and,Bool.and_eq_true,Nat.ble_eq]
  exact ⟨hs,hcl⟩
 show trim2 H s c=_
 unfold trim2
 rw [h2]
def dec (n:Int):Str:=(Lib.itoa n).map (·.toNat)
theorem dig1:∀ p:Fin 10,(([48,49,50,51,52,53,54,55,56,57,97,98,99,100,101,102,103,104,105,106,107,108,109,110,111,112,113,114,115,116,117,118,119,120,121,122]:List Nat).drop p.val).take 1=[48 + p.val]:=by decide +kernel
abbrev sm:List Nat:=[48,48,48,49,48,50,48,51,48,52,48,53,48,54,48,55,48,56,48,57,49,48,49,49,49,50,49,51,49,52,49,53,49,54,49,55,49,56,49,57,50,48,50,49,50,50,50,51,50,52,50,53,50,54,50,55,50,56,50,57,51,48,51,49,51,50,51,51,51,52,51,53,51,54,51,55,51,56,51,57,52,48,52,49,52,50,52,51,52,52,52,53,52,54,52,55,52,56,52,57,53,48,53,49,53,50,53,51,53,52,53,53,53,54,53,55,53,56,53,57,54,48,54,49,54,50,54,51,54,52,54,53,54,54,54,55,54,56,54,57,55,48,55,49,55,50,55,51,55,52,55,53,55,54,55,55,55,56,55,57,56,48,56,49,56,50,56,51,56,52,56,53,56,54,56,55,56,56,56,57,57,48,57,49,57,50,57,51,57,52,57,53,57,54,57,55,57,56,57,57]
theorem dig2:∀ p:Fin 100,(sm.drop (p.val * 2)).take 2=[48 + p.val / 10,48 + p.val % 10]:=by decide +kernel
theorem u8_nat {n:Nat} (h:n < 256):(UInt8.ofNat n).toNat=n:=by rw [UInt8.toNat_ofNat',Nat.mod_eq_of_lt h]
theorem dec1 {n:Nat} (h:n < 10):dec (n:Int)=[48 + n]:=by
 unfold dec Lib.itoa
 rw [if_neg (by omega),Int.toNat_natCast,Lib.decDigits_one h]
 simp only [List.map_cons,List.map_nil]
 rw [u8_nat (by omega)]
theorem dec2 {n:Nat} (h1:¬ n < 10) (h2:n < 100):dec (n:Int)=[48 + n / 10,48 + n % 10]:=by
 unfold dec Lib.itoa
 rw [if_neg (by omega),Int.toNat_natCast,Lib.decDigits_two h1 h2]
 simp only [List.map_cons,List.map_nil]
 rw [u8_nat (by omega),u8_nat (by omega)]
theorem small_c {n:Nat} (h:n < 100) (H:Hp):cK (.func (.func 169) [] []) [.int .i64 n] H=some (.str (dec n),H):=by
 refine c_internal_strconv_small ?_
 unfold s_internal_strconv_small
 by_cases h1:n < 10
 ·have d:decide ((n:Int) < 10)=true:=decide_eq_true (by omega)
  have e:IntKind.wrap .i64 ((n:Int) + 1)=((n + 1:Nat):Int):=by rw [wrap_i64 (by omega) (by omega)]; rfl
  have q:=sls_ft (s:=[48,49,50,51,52,53,54,55,56,57,97,98,99,100,101,102,103,104,105,106,107,108,109,110,111,112,113,114,115,116,117,118,119,120,121,122]) (a:=n) (b:=n + 1) .i64 .i64 (by omega) (by simp only [List.length_cons,List.length_nil]; omega)
  rw [Nat.add_sub_cancel_left,dig1 ⟨n,h1⟩] at q
  simp only [d,e,q,dec1 h1,k_s,k_x,simprocAttr]
 ·have d:decide ((n:Int) < 10)=false:=decide_eq_false (by omega)
  have e1:IntKind.wrap .i64 ((n:Int) * 2)=((n * 2:Nat):Int):=by rw [wrap_i64 (by omega) (by omega)]; omega
  have e2:IntKind.wrap .i64 (((n * 2:Nat):Int) + 2)=((n * 2 + 2:Nat):Int):=by rw [wrap_i64 (by omega) (by omega)]; rfl
  have q:=sls_ft (s:=sm) (a:=n * 2) (b:=n * 2 + 2) .i64 .i64 (by omega) (by simp only [List.length_cons,List.length_nil]; omega)
  rw [Nat.add_sub_cancel_left,dig2 ⟨n,h⟩] at q
  simp only [d,e1,e2,q,dec2 h1 h,k_s,k_x,simprocAttr]
theorem numDigits_c {u:Nat} (h1:1≤u) (h2:u < 18446744073709551616) {H:Hp} (hg:Gl H):cK (.func (.func 170) [] []) [.int .u64 u] H=some (.int .i64 (Lib.nDigits u:Nat),H):=by
 refine c_internal_strconv_numDigits ?_
 unfold s_internal_strconv_numDigits
 have hl:cK (.func (.func 187) [] []) [.int .u64 u] H=some (.int .i64 (Lib.bitLen u:Nat),H):=by
  refine ck_prim (p:=len64P) (by kernel_rfl) ?_
  unfold len64P
  simp only
  rw [if_pos ⟨by omega,by omega⟩,Int.toNat_natCast]
 obtain ⟨n1,n2⟩:=Lib.numDigits_eq u h1 h2
 have hb:Lib.bitLen u≤100:=by
  have:Lib.l10 (Lib.bitLen u)≤19:=n2
  unfold Lib.l10 at this
  omega
 have hp:cK (.func (.func 186) [] []) [.int .i64 (Lib.bitLen u:Nat)] H=some (.int .i64 (Lib.l10 (Lib.bitLen u):Nat),H):=by
  refine c_internal_strconv_log10Pow2 ?_
  unfold s_internal_strconv_log10Pow2
  have e:IntKind.wrap .i64 ((Lib.bitLen u:Int) * 78913)=((Lib.bitLen u * 78913:Nat):Int):=by rw [wrap_i64 (by omega) (by omega)]; omega
  have e2:ishr (.int .i64 ((Lib.bitLen u * 78913:Nat):Int)) (.int .u64 18)=some (.int .i64 ((Lib.l10 (Lib.bitLen u):Nat):Int)):=by
   have:=ishr_n (k := .i64) (j := .u64) (a:=Lib.bitLen u * 78913) (b:=18)
   rw [show ((18:Nat):Int)=18 from rfl] at this
   rw [this]
   rfl
  simp only [e,e2,k_s,k_x,simprocAttr]
 generalize hq:Lib.l10 (Lib.bitLen u)=q at *
 have hia:iar 20 1 (.ptr 0 0) (.int .i64 (q:Nat))=some (.ptr 0 q):=by
  unfold iar
  simp only
  rw [if_pos (by omega),Int.toNat_natCast,Nat.mul_one,Nat.zero_add]
 have hc:=hg.pow q (by omega)
 by_cases hle:10 ^ q≤u
 ·rw [if_pos hle] at n1
  have d:decide (((10 ^ q:Nat):Int)≤(u:Int))=true:=decide_eq_true (by exact Int.ofNat_le.2 hle)
  have hbl:cK (.func (.func 188) [] []) [.bool true] H=some (.int .i64 1,H):=by
   refine c_internal_strconv_bool2_int_ ?_
   unfold s_internal_strconv_bool2_int_
   simp only [k_s,k_x,simprocAttr]
  have e:IntKind.wrap .i64 ((q:Int) + 1)=((Lib.nDigits u:Nat):Int):=by rw [wrap_i64 (by omega) (by omega)]; omega
  simp only [hl,hp,hia,ld_p,hc,ige_i,d,hbl,e,k_s,k_x,simprocAttr]
 ·rw [if_neg hle] at n1
  have d:decide (((10 ^ q:Nat):Int)≤(u:Int))=false:=decide_eq_false (by intro x; exact hle (Int.ofNat_le.1 x))
  have hbl:cK (.func (.func 188) [] []) [.bool false] H=some (.int .i64 0,H):=by
   refine c_internal_strconv_bool2_int_ ?_
   unfold s_internal_strconv_bool2_int_
   simp only [k_s,k_x,simprocAttr]
  have e:IntKind.wrap .i64 ((q:Int) + 0)=((Lib.nDigits u:Nat):Int):=by rw [wrap_i64 (by omega) (by omega)]; omega
  simp only [hl,hp,hia,ld_p,hc,ige_i,d,hbl,e,k_s,k_x,simprocAttr]
theorem fb10_c {H:Hp} {i off n u cap:Nat} {ex:Bool} {l:List AV} {el fl:Nat} (h:Cs H i l el fl) (hf:fl≤1) (hn0:0 < n) (ho:off + n≤l.length) (hn:n≤100) (hu:u < 18446744073709551616) (hup:u < 10 ^ n) (hb:∀ v∈l,∃ b:Nat,b < 256∧v = .int .u8 b) :
  ∃ H',cK (.func (.func 171) [] []) [.slice i off n cap ex 1,.int .u64 u] H=some (.tuple [],H')∧Cs H' i (setR l off (digs u n)) el fl∧Out [i] H H':=by
 obtain ⟨hi,c,hc,hg⟩:=h
 have hdl:(digs u n).length=n:=by simp [digs]
 have hca:=Cs.cellsAt ⟨hi,c,hc,hg⟩ n off ho
 refine ⟨{ H with h:=H.h.upd i (.cells (c.puts off (digs u n)) 0 l.length el fl) },ck_prim (p:=fb10P) (by kernel_rfl) ?_,⟨hi,c.puts off (digs u n),?_,?_⟩,⟨Nat.le_refl _,fun j hj hn' => ?_⟩⟩
 ·unfold fb10P
  simp only
  rw [if_pos ⟨trivial,hn0,by omega,by omega,by omega,by rw [Int.toNat_natCast]; exact hup⟩,hc,Option.bind_some,Int.toNat_natCast]
  unfold fb2
  simp only
  rw [if_pos ⟨by omega,ho,hf,_,hca,fun v hv=>hb v (List.mem_of_mem_drop (List.mem_of_mem_take hv))⟩]
 ·show (H.h.upd i _).get i=_
  rw [Tr.upd,Tr.get_putP,if_pos rfl,setR_len]
 ·intro k v hk
  rw [setR_get _ _ _ _ (by rw [hdl]; exact ho)] at hk
  rw [Tr.get_putsA]
  split
  ·rename_i hin
   rw [if_pos hin] at hk
   exact hk
  ·rename_i hin
   rw [if_neg hin] at hk
   exact hg k v hk
 ·show (H.h.upd i _).get j=_
  rw [Tr.upd,Tr.get_putP,if_neg (by simpa using hn')]
theorem digs_dec (u:Nat):digs u (Lib.nDigits u)=bs ((Lib.decDigits u).map (·.toNat)):=by
 unfold digs bs
 rw [Lib.decDigits_eq,List.map_map,List.map_map]
 rfl
theorem sliceArr {H:Hp} {i a b:Nat} {l:List AV} {el fl:Nat} (h:Cs H i l el fl) (hl:l.length=24) (hab:a≤b) (hb:b≤24) {lo:Option AV} (hlo:Bd lo a 0):sliceA P 243 (.ptr i 0) lo (some (.int .i64 b)) none H=some (.slice i a (b - a) (24 - a) true 1):=by
 have hu:P.underlying 243=some (.array 24 5):=Tryz.underlying243
 have hs:sz P 5=some 1:=by kernel_rfl
 have hc:=h.cellAt (o:=23) (v:=l[23]'(by omega)) (List.getElem?_eq_getElem (by omega))
 unfold sliceA
 simp only [hu,hs,Option.bind_eq_bind,Option.bind_some,sliceBnd_ok hab hb (Nat.le_refl _) hlo (Bd.yes .i64 b 24),Nat.mul_one,Nat.zero_add]
 have h1:(decide (0 < 24) && (cellAt H i (0 + 24 - 1)).isSome)=true:=by
  rw [show 0 + 24 - 1=23 by rfl,hc]; rfl
 simp [hc]
theorem dec_neg {n:Int} (h:n < 0):dec n=45::(Lib.decDigits n.natAbs).map (·.toNat):=by
 unfold dec Lib.itoa
 rw [if_pos h]; rfl
theorem dec_pos {n:Int} (h:¬ n < 0):dec n=(Lib.decDigits n.toNat).map (·.toNat):=by
 unfold dec Lib.itoa
 rw [if_neg h]
theorem nDigits_le {u:Nat} (h:u < 18446744073709551616) (h1:1≤u):Lib.nDigits u≤20:=by
 obtain ⟨n1,n2⟩:=Lib.numDigits_eq u h1 h
 split at n1 <;> omega
theorem dig_lt (u:Nat):∀ b∈(Lib.decDigits u).map (·.toNat),b < 256:=by
 intro b hb
 obtain ⟨c,_,rfl⟩:=List.mem_map.1 hb
 exact c.toNat_lt
abbrev z24:List AV:=[(.int .u8 0),(.int .u8 0),(.int .u8 0),(.int .u8 0),(.int .u8 0),(.int .u8 0),(.int .u8 0),(.int .u8 0),(.int .u8 0),(.int .u8 0),(.int .u8 0),(.int .u8 0),(.int .u8 0),(.int .u8 0),(.int .u8 0),(.int .u8 0),(.int .u8 0),(.int .u8 0),(.int .u8 0),(.int .u8 0),(.int .u8 0),(.int .u8 0),(.int .u8 0),(.int .u8 0)]
theorem fmt_c {n:Int} (h0 : -9223372036854775808≤n) (h1:n≤9223372036854775807) {H:Hp} (hg:Gl H):∃ H',cK (.func (.func 151) [] []) [.int .i64 n,.int .i64 10] H=some (.str (dec n),H')∧Out [] H H':=by
 by_cases hs:0≤n∧n < 100
 ·obtain ⟨m,rfl⟩:∃ m:Nat,n=m:=⟨n.toNat,by omega⟩
  refine ⟨H,c_internal_strconv_FormatInt ?_,Out.refl _ _⟩
  unfold s_internal_strconv_FormatInt
  have d1:decide ((0:Int)≤(m:Int))=true:=decide_eq_true (by omega)
  have d2:decide ((m:Int) < 100)=true:=decide_eq_true hs.2
  simp only [d1,d2,small_c (show m < 100 by omega),k_s,k_x,simprocAttr]
 ·obtain ⟨u,hu1,hu2,hu3⟩:∃ u:Nat,1≤u∧u < 18446744073709551616∧u=n.natAbs:=⟨n.natAbs,by omega,by omega,rfl⟩
  have hd:=nDigits_le hu2 hu1
  have hd0:=Lib.nDigits_pos u
  have hup:=Lib.lt_pow_nDigits u
  have ha:newCells H z24 243 0=some (H.next,al H z24 243 0):=newCells_al (by simp)
  have hcs:=al_cs H z24 243 0
  have hg1:=hg.out0 (al_out H z24 243 0)
  have hnd:=numDigits_c hu1 hu2 hg1
  have hsl:=sliceArr hcs rfl (a:=1) (b:=1 + Lib.nDigits u) (lo:=some (.int .i64 1)) (by omega) (by omega) (Bd.yes .i64 1 0)
  rw [Nat.add_sub_cancel_left] at hsl
  obtain ⟨H1,f1,f2,f3⟩:=fb10_c (cap:=24 - 1) (ex:=true) hcs (by decide) hd0 (off:=1) (by show 1 + _≤24; omega) (by omega) hu2 hup (by intro v hv; refine ⟨0,by omega,?_⟩; simp at hv; exact hv)
  have hlen:(setR z24 1 (digs u (Lib.nDigits u))).length=24:=by rw [setR_len]; rfl
  have hdl:(digs u (Lib.nDigits u)).length=Lib.nDigits u:=by simp [digs]
  have e1:IntKind.wrap .i64 (1 + (Lib.nDigits u:Int))=((1 + Lib.nDigits u:Nat):Int):=by rw [wrap_i64 (by omega) (by omega)]; omega
  have ho1:Out [] H H1:=(al_out H z24 243 0).then f3 fun j hj=>by rw [List.mem_singleton] at hj; exact .inr (by omega)
  have hneg100:(decide ((0:Int)≤n) && decide (n < 100))=false:=by
   rw [Bool.and_eq_false_iff]
   by_cases q:0≤n
   ·right; exact decide_eq_false (by omega)
   ·left; exact decide_eq_false (by omega)
  by_cases hn:n < 0
  ·have d1:decide ((0:Int)≤n)=false:=decide_eq_false (by omega)
   have d2:decide (n < 0)=true:=decide_eq_true hn
   have e2:unA .neg (.int .u64 (IntKind.wrap .u64 n))=some (.int .u64 (u:Nat)):=by
    show some (AV.int .u64 (IntKind.wrap .u64 (0 - IntKind.wrap .u64 n)))=_
    congr 2
    simp only [IntKind.wrap,IntKind.bits,IntKind.signed]
    simp
    omega
   have hst:=st1 f2 (by decide) (o:=0) (by rw [hlen]; decide) (v := .int .u8 45) rfl
   obtain ⟨H2,w1,w2,w3,w4⟩:=hst
   have hsl2:=sliceArr w2 (by rw [List.length_set]; exact hlen) (a:=0) (b:=1 + Lib.nDigits u) (lo:=none) (by omega) (by omega) (Bd.no 0)
   rw [Nat.sub_zero,Nat.sub_zero] at hsl2
   have hbs:(((setR z24 1 (digs u (Lib.nDigits u))).set 0 (.int .u8 45)).take (1 + Lib.nDigits u))=bs (dec n):=by
    rw [dec_neg hn,← hu3]
    show _=AV.int .u8 (45:Nat)::bs _
    rw [← digs_dec]
    apply List.ext_getElem?
    intro k
    rw [List.getElem?_take]
    by_cases hk:k < 1 + Lib.nDigits u
    ·rw [if_pos hk,List.getElem?_set]
     by_cases hk0:0=k
     ·subst hk0
      rw [if_pos rfl,if_pos (by rw [hlen]; decide)]; rfl
     ·obtain ⟨j,rfl⟩:∃ j,k=j + 1:=⟨k - 1,by omega⟩
      rw [if_neg hk0,setR_get _ _ _ _ (by rw [hdl]; show 1 + _≤24; omega),if_pos (by rw [hdl]; omega),Nat.add_sub_cancel,List.getElem?_cons_succ]
    ·rw [if_neg hk,List.getElem?_eq_none (by rw [List.length_cons,hdl]; omega)]
   have hrw:Rw H2 1 (.slice H.next 0 (1 + Lib.nDigits u) 24 true 1) (bs (dec n)):=by
    rw [← hbs]
    exact .mk (w2.ro.take _) (by rw [List.length_take,List.length_set,hlen]; omega) (by omega) rfl
   have hb2:=b2s_ok hrw (by
    rw [dec_neg hn]
    intro b hb
    rcases List.mem_cons.1 hb with rfl | hb
    ·omega
    ·exact dig_lt _ b hb)
   refine ⟨H2,c_internal_strconv_FormatInt ?_,ho1.then w3 fun j hj=>by rw [List.mem_singleton] at hj; exact .inr (by omega)⟩
   unfold s_internal_strconv_FormatInt
   have hir:iar 24 1 (.ptr H.next 0) (.int .i64 0)=some (.ptr H.next 0):=by unfold iar; simp
   simp only [d1,ha,d2,e2,hnd,e1,hsl,f1,hir,w1,hsl2,hb2,k_s,k_x,simprocAttr]
  ·obtain ⟨m,rfl⟩:∃ m:Nat,n=m:=⟨n.toNat,by omega⟩
   have hum:u=m:=by omega
   subst hum
   have d1:decide ((0:Int)≤(u:Int))=true:=decide_eq_true (by omega)
   have d1':decide ((u:Int) < 100)=false:=decide_eq_false (by omega)
   have d2:decide ((u:Int) < 0)=false:=decide_eq_false hn
   have e2:IntKind.wrap .u64 (u:Int)=(u:Int):=wrap_u rfl (by show u < 2 ^ 64; omega)
   have hsl2:=sliceArr f2 hlen (a:=1) (b:=1 + Lib.nDigits u) (lo:=some (.int .i64 1)) (by omega) (by omega) (Bd.yes .i64 1 0)
   rw [Nat.add_sub_cancel_left] at hsl2
   have hbs:(((setR z24 1 (digs u (Lib.nDigits u))).drop 1).take (Lib.nDigits u))=bs (dec (u:Int)):=by
    rw [dec_pos hn,Int.toNat_natCast,← digs_dec]
    apply List.ext_getElem?
    intro k
    rw [List.getElem?_take]
    by_cases hk:k < Lib.nDigits u
    ·rw [if_pos hk,List.getElem?_drop,setR_get _ _ _ _ (by rw [hdl]; show 1 + _≤24; omega),if_pos (by rw [hdl]; omega),Nat.add_sub_cancel_left]
    ·rw [if_neg hk,List.getElem?_eq_none (by rw [hdl]; omega)]
   have hrw:Rw H1 1 (.slice H.next 1 (Lib.nDigits u) (24 - 1) true 1) (bs (dec (u:Int))):=by
    rw [← hbs]
    exact .mk ((f2.ro.drop 1 (by rw [hlen]; decide)).take _) (by rw [List.length_take,List.length_drop,hlen]; omega) (by omega) rfl
   have hb2:=b2s_ok hrw (by rw [dec_pos hn]; exact dig_lt _)
   refine ⟨H1,c_internal_strconv_FormatInt ?_,ho1⟩
   unfold s_internal_strconv_FormatInt
   simp only [d1,d1',ha,d2,e2,hnd,e1,hsl,f1,hsl2,hb2,k_s,k_x,simprocAttr]
theorem itoa_c {n:Int} (h0 : -9223372036854775808≤n) (h1:n≤9223372036854775807) {H:Hp} (hg:Gl H):∃ H',cK (.func (.func 89) [] []) [.int .i64 n] H=some (.str (dec n),H')∧Out [] H H':=by
 obtain ⟨H',h2,h3⟩:=fmt_c h0 h1 hg
 refine ⟨H',c_strconv_Itoa ?_,h3⟩
 unfold s_strconv_Itoa
 have:cK (.func (.func 116) [] []) [.int .i64 n] H=some (.str (dec n),H'):=by
  refine c_internal_strconv_Itoa ?_
  unfold s_internal_strconv_Itoa
  simp only [h2,k_s,k_x,simprocAttr]
 simp only [this,k_s,k_x,simprocAttr]
theorem atoi_c {s:Str} (hs:s.length≤281474976710656) {H:Hp} (hg:Gl H):cK (.func (.func 178) [] []) [.str s] H=some (atoiR s,H):=by
 refine ck_prim (p:=atoiP) (by kernel_rfl) ?_
 unfold atoiP
 simp only
 rw [if_pos ⟨hg.err,hs⟩]
theorem same_sl (i o n c:Nat) (ex:Bool) (es:Nat):same (.slice i o n c ex es) (.slice i o n c ex es)=true:=by simp [same,sameS,Nat.beq_refl]
theorem same_int (k:IntKind) (z:Int):same (.int k z) (.int k z)=true:=by simp [same,sameS]
theorem SM_sl (i o n c:Nat) (ex:Bool) (es:Nat) (x:R):SM (.slice i o n c ex es) (.slice i o n c ex es) x=x:=SM_t (same_sl ..)
theorem SM_int (k:IntKind) (z:Int) (x:R):SM (.int k z) (.int k z) x=x:=SM_t (same_int ..)
structure Bu (H:Hp) (p:Nat) (sl:AV) (l:Str):Prop where
 c:Cs H p [.ptr p 0,sl] 185 0
 o:Ow H 5 1 sl (bs l)
 ne:p∉rid sl
theorem noEsc_c (x:AV) (H:Hp):cK (.func (.func 173) [] []) [x] H=some (x,H):=
 ck_ext (k := .same) (by kernel_rfl) Tryz.func173 rfl (by kernel_rfl) rfl
theorem makeNoZero_c {n:Nat} (hn:n≤1048576) (H:Hp):cK (.func (.func 174) [] []) [.int .i64 n] H=some (.slice H.next 0 n n false 1,al H (List.replicate n .junk) 5 0):=by
 refine ck_ext (k := .noZero 73) (by kernel_rfl) Tryz.func174 rfl (by kernel_rfl) ?_
 have hu:P.underlying 73=some (.slice 5):=Tryz.underlying73
 unfold extA
 simp only [hu]
 rw [if_pos ⟨by omega,by omega⟩,Int.toNat_natCast,newCells_al (by rw [List.length_replicate]; omega)]
 rfl
theorem convU {H:Hp} {p:Nat} {l:List AV} {el fl:Nat} (h:Cs H p l el fl) (hl:0 < l.length):convA P 183 247 (.ptr p 0) H=some (.ptr p 0,H):=by
 have h1:P.underlying 183=some (.pointer 185):=Tryz.underlying183
 have h2:P.underlying 247=some .unsafePointer:=Tryz.underlying247
 have h3:posSz P 185=true:=by kernel_rfl
 have h4:=h.cellAt (List.getElem?_eq_getElem hl)
 unfold convA
 simp only [h1,h2,h3,h4,Option.isSome_some,Bool.and_self,cond_true]
theorem convB {H:Hp} {p:Nat} {a b:AV} (h:Cs H p [a,b] 185 0):convA P 247 183 (.ptr p 0) H=some (.ptr p 0,H):=by
 have h1:P.underlying 183=some (.pointer 185):=Tryz.underlying183
 have h2:P.underlying 247=some .unsafePointer:=Tryz.underlying247
 have h3:P.cellsOf 185=2:=by kernel_rfl
 have h4:=h.cellAt (o:=1) (v:=b) rfl
 obtain ⟨_,c,hc,_⟩:=h
 unfold convA
 simp only [h1,h2,hc,h3,Nat.reduceSub,h4]
 rfl
theorem check0_c {H:Hp} {p:Nat} (h:Cs H p [.ptr0,.slice0] 185 0):∃ H',cK (.func (.func 152) [] []) [.ptr p 0] H=some (.tuple [],H')∧Cs H' p [.ptr p 0,.slice0] 185 0∧Out [p] H H'∧H'.next=H.next:=by
 obtain ⟨H',w1,w2,w3,w4⟩:=st1 h (by decide) (o:=0) (by decide) (v := .ptr p 0) rfl
 refine ⟨H',c_strings_Builder_copyCheck ?_,w2,w3,w4⟩
 unfold s_strings_Builder_copyCheck
 have h1:=h.ld (o:=0) (v := .ptr0) rfl
 simp only [Nat.add_zero,h1,convU h (by decide),noEsc_c,convB h,w1,k_s,k_x,Int.reduceBEq,Int.reduceBNe,Int.reduceLT,Int.reduceLE,Int.reduceGT,Int.reduceGE,Int.reduceNeg]
theorem pe_self (p o:Nat) (H:Hp):pe (.ptr p o) (.ptr p o) H=some true:=by
 unfold pe
 simp [Nat.beq_refl]
theorem check_c {H:Hp} {p:Nat} {sl:AV} {l:Str} (h:Bu H p sl l):cK (.func (.func 152) [] []) [.ptr p 0] H=some (.tuple [],H):=by
 refine c_strings_Builder_copyCheck ?_
 unfold s_strings_Builder_copyCheck
 have h1:=h.c.ld (o:=0) (v := .ptr p 0) rfl
 simp only [Nat.add_zero,h1,pe_self,k_s,k_x,Int.reduceBEq,Int.reduceBNe,Int.reduceLT,Int.reduceLE,Int.reduceGT,Int.reduceGE,Int.reduceNeg]
theorem ow_junk {H:Hp} {n el:Nat} (hn:0 < n):Ow (al H (List.replicate n .junk) el 0) el 1 (.slice H.next 0 0 n false 1) []:=by
 have hcs:=al_cs H (List.replicate n .junk) el 0
 obtain ⟨hi,c,hc,hg⟩:=hcs
 refine .mk hi hc (by decide) (Nat.le_refl _) (by rw [List.length_replicate]; omega) (Nat.zero_le _) (by simp) (fun k v hk=>by simp at hk) (fun k hk => ?_) (fun v hv=>by cases hv) rfl
 rw [Nat.zero_add,hg k .junk (by rw [List.getElem?_replicate,if_pos (by omega)])]; rfl
theorem grow_c {H:Hp} {p n:Nat} (hn0:0 < n) (hn:n≤1000000) (h:Cs H p [.ptr0,.slice0] 185 0):∃ sl H',cK (.func (.func 117) [] []) [.ptr p 0,.int .i64 n] H=some (.tuple [],H')∧Bu H' p sl []∧Out [p] H H'∧∀ j∈rid sl,H.next≤j:=by
 obtain ⟨H1,c1,c2,c3,c4⟩:=check0_c h
 have hu:P.underlying 73=some (.slice 5):=Tryz.underlying73
 have hcap:∀ H:Hp,builtinA P .cap #[73] [.slice0] H=some (.int .i64 0,H):=fun H=>by
  unfold builtinA
  simp only
  unfold capA
  simp only [hu,List.getElem?_toArray,List.getElem?_cons_zero,Option.bind_some]
  rfl
 have l1:=c2.ld (o:=1) (v := .slice0) rfl
 have e1:IntKind.wrap .i64 (0 + (n:Int))=(n:Int):=by rw [wrap_i64 (by omega) (by omega)]; omega
 have e0:IntKind.wrap .i64 (2 * 0)=0:=by rw [wrap_i64 (by omega) (by omega)]; omega
 have e2:IntKind.wrap .i64 (0 - 0)=0:=by rw [wrap_i64 (by omega) (by omega)]; omega
 have hm:=makeNoZero_c (show n≤1048576 by omega) H1
 have hout:=al_out H1 (List.replicate n .junk) 5 0
 have c2':=c2.out hout (by simp)
 have l1':=c2'.ld (o:=1) (v := .slice0) rfl
 have hsl:sll 1 (.slice H1.next 0 n n false 1) none (some (.int .i64 0)) none=some (.slice H1.next 0 0 n false 1):=by
  unfold sll
  have:=sliceBnd_ok (len:=n) (cap:=n) (a:=0) (b:=0) (lo:=none) (hi:=some (.int .i64 0)) (Nat.le_refl _) (Nat.zero_le _) (Nat.le_refl _) (Bd.no 0) (Bd.yes0 .i64 _)
  simp only [this]
  simp
 have hcp:∀ H:Hp,cpy 1 (.slice H1.next 0 0 n false 1) .slice0 H=some (.int .i64 0,H):=fun H=>by unfold cpy; simp [lenS]
 obtain ⟨H2,w1,w2,w3,w4⟩:=st1 c2' (by decide) (o:=1) (by simp) (v := .slice H1.next 0 0 n false 1) rfl
 have hg:cK (.func (.func 153) [] []) [.ptr p 0,.int .i64 n] H1=some (.tuple [],H2):=by
  refine c_strings_Builder_grow ?_
  unfold s_strings_Builder_grow
  have hs0:∀ x:R,SM .slice0 .slice0 x=x:=fun x=>SM_t rfl
  simp only [l1,hcap,e0,e1,hm,l1',hsl,hs0,SM_int,hcp,w1,k_s,k_x,Int.reduceBEq,Int.reduceBNe,Int.reduceLT,Int.reduceLE,Int.reduceGT,Int.reduceGE,Int.reduceNeg]
 have hlt:p < H1.next:=by rw [c4]; exact h.1
 refine ⟨.slice H1.next 0 0 n false 1,H2,c_strings_Builder_Grow ?_,⟨w2,(ow_junk hn0).out w3 (fun j hj=>by
  rw [rid_s (by rfl),List.mem_singleton] at hj
  rw [List.mem_singleton]; omega),by rw [rid_s (by rfl),List.mem_singleton]; omega⟩,(c3.trans (hout.mono (S':=[p]) (fun j hj=>by cases hj))).trans w3,fun j hj=>by rw [rid_s (by rfl),List.mem_singleton] at hj; omega⟩
 unfold s_strings_Builder_Grow
 have d1:decide ((n:Int) < 0)=false:=decide_eq_false (by omega)
 have d2:decide ((0:Int) < (n:Int))=true:=decide_eq_true (by omega)
 simp only [c1,d1,l1,hcap,e2,d2,hg,k_s,k_x,Int.reduceBEq,Int.reduceBNe,Int.reduceLT,Int.reduceLE,Int.reduceGT,Int.reduceGE,Int.reduceNeg]
theorem write_c {H:Hp} {p:Nat} {sl:AV} {l s:Str} (h:Bu H p sl l) (hl:l.length + s.length≤16777216):∃ sl' H',cK (.func (.func 118) [] []) [.ptr p 0,.str s] H=some (.tuple [.int .i64 s.length,.nilIface],H')∧Bu H' p sl' (l++s)∧Out (p::rid sl) H H'∧∀ j∈rid sl',j∈rid sl∨H.next≤j:=by
 obtain ⟨sl',H1,a1,a2,a3,a4⟩:=ap2_ok (n:=s.length) (new:=bs s) h.o (by rw [bs_len,Nat.mul_one]) (bs_one s) (by decide) (by rw [bs_len,bs_len]; exact hl)
 have happ:app' 5 1 [(.int .u8 0)] false sl (.str s) H=some (sl',H1):=by
  unfold app'
  have:apn 1 [(.int .u8 0)] false (.str s) H=some (s.length,bs s):=by unfold apn; simp [bs]
  rw [this]; exact a1
 have hc1:=h.c.out a3 h.ne
 obtain ⟨H2,w1,w2,w3,w4⟩:=st1 hc1 (by decide) (o:=1) (by simp) (v:=sl') a2.oneX
 have hne:p∉rid sl':=fun q=>(a4 p q).elim h.ne fun q=>by have:=h.c.1; omega
 refine ⟨sl',H2,c_strings_Builder_WriteString ?_,⟨w2,by rw [bs_app]; exact a2.out w3 (fun j hj=>by rw [List.mem_singleton]; intro e; subst e; exact hne hj),hne⟩,?_,a4⟩
 ·unfold s_strings_Builder_WriteString
  have l1:=h.c.ld (o:=1) (v:=sl) rfl
  simp only [check_c h,l1,happ,w1,k_s,k_x,Int.reduceBEq,Int.reduceBNe,Int.reduceLT,Int.reduceLE,Int.reduceGT,Int.reduceGE,Int.reduceNeg]
 ·exact (a3.mono fun j hj => .tail _ hj).trans (w3.mono fun j hj=>by rw [List.mem_singleton] at hj; subst hj; exact .head _)
theorem string_c {H:Hp} {p:Nat} {sl:AV} {l:Str} (h:Bu H p sl l) (h0:0 < l.length) (hl:l.length < 16777216) (hb:∀ b∈l,b < 256):∃ H',cK (.func (.func 119) [] []) [.ptr p 0] H=some (.str l,H')∧Out (rid sl) H H':=by
 have l1:=h.c.ld (o:=1) (v:=sl) rfl
 have ho:=h.o
 have hne:=h.ne
 generalize hcl:bs l=cs at ho
 cases ho with
 | nil=>
  have:l=[]:=by simpa [bs] using hcl
  subst this; simp at h0
 | emp=>
  have:l=[]:=by simpa [bs] using hcl
  subst this; simp at h0
 | @mk i off n cap ex _ c lo hi fl hi' hg hf hlo hhi hcap hn hcc hs h1 he=>
  subst hcl
  rw [bs_len,Nat.mul_one] at hn
  have hro:Ro H i off (bs l):=⟨hi',c,lo,hi,5,fl,hg,hlo,by rw [bs_len]; omega,hcc⟩
  have hcells:=hro.cellsAt
  rw [bs_len,hn] at hcells
  rw [rid_s he,List.mem_singleton] at hne
  have hx:((cellsAt H i off n).bind toBytes)=some l:=by rw [hcells]; exact toBytes_bs l hb
  refine ⟨{ H with h:=H.h.upd i (.cells c lo hi 5 2) },c_strings_Builder_String ?_,⟨Nat.le_refl _,fun j hj hjn => ?_⟩⟩
  ·unfold s_strings_Builder_String
   have b1:builtinA P .unsafeSliceData #[73] [.slice i off n cap ex 1] H=some (.ptr i off,H):=by
    unfold builtinA
    have:Nat.blt 0 n=true:=by rw [Nat.blt_eq]; omega
    simp only [this,cond_true]
   have b2:builtinA P .unsafeString #[227,3] [.ptr i off,.int .i64 (n:Nat)] H=some (.str l,{ H with h:=H.h.upd i (.cells c lo hi 5 2) }):=by
    have hu:P.underlying 227=some (.pointer 5):=Tryz.underlying227
    have hc1:P.cellsOf 5=1:=by kernel_rfl
    unfold builtinA
    simp only
    unfold unsafeStrA
    simp only [hu]
    rw [if_neg (by omega)]
    simp only [hg]
    rw [if_pos ⟨trivial,hc1,by omega,by omega,hf⟩,Int.toNat_natCast,hx]
    rfl
   simp only [l1,b1,b2,SM_sl,SM_int,k_s,k_x,Int.reduceBEq,Int.reduceBNe,Int.reduceLT,Int.reduceLE,Int.reduceGT,Int.reduceGE,Int.reduceNeg]
  ·rw [rid_s he,List.mem_singleton] at hjn
   show (Tr.upd H.h i _).get j=_
   rw [Tr.upd,Tr.get_putP,if_neg hjn]
def joT (sep:Str):List Str→Str
 | []=>[]
 | a::l=>sep++a++joT sep l
def joiS (sep:Str):List Str→Str
 | []=>[]
 | a::l=>a++joT sep l
theorem joiS_c (c:Nat):∀ l:List Str,joiS [c] l=joi c l
 | []=>rfl
 | [a]=>by simp [joiS,joT,joi]
 | a::b::l=>by
  have:=joiS_c c (b::l)
  show a++([c]++b++joT [c] l)=a++c::joi c (b::l)
  rw [← this]
  simp [joiS]
def sumL (l:List Str):Nat:=(l.map List.length).sum
theorem joT_len (sep:Str):∀ l,(joT sep l).length=sep.length * l.length + sumL l
 | []=>by simp [joT,sumL]
 | a::l=>by
  have:=joT_len sep l
  simp only [joT,List.length_append,this,List.length_cons,Nat.mul_add,Nat.mul_one,sumL,List.map_cons,List.sum_cons]
  omega
theorem join_loop {x:AV} {l:List Str} {H:Hp} (hx:Rw H 1 x (strs l)) (hl:l.length≤1000) (hb:∀ s∈l,s.length≤100000) (k:K.Fn 3) (y z:AV):∀ (r:List Str) (i acc:Nat),i≤l.length→l.drop i=r→acc≤1000000 + i * 100000→
  l_strings_Join JN GO cK k y z (.int .i64 acc) x (.int .i64 (l.length:Nat)) (.int .i64 (i:Nat)) H=k y z (.int .i64 ((acc + sumL r:Nat):Int)) H
 | [],i,acc,hi,h,ha=>by
  obtain rfl:=drop_nil hi h
  rw [ql_strings_Join]
  simp only [bl_strings_Join,lt_f,sumL,List.map_nil,List.sum_nil,Nat.add_zero,k_s,k_x,Int.reduceBEq,Int.reduceBNe,Int.reduceLT,Int.reduceLE,Int.reduceGT,Int.reduceGE,Int.reduceNeg]
 | a::r,i,acc,hi,h,ha=>by
  obtain ⟨h1,h2,h3⟩:=hd_drop h
  obtain ⟨q,q1,q2⟩:=hx.ia1 (strs_get h2) .i64
  have e:=wrap_s h1 (by omega)
  have hal:=hb a (List.mem_of_getElem? h2)
  have hacc:acc + a.length≤1000000 + (i + 1) * 100000:=by omega
  have ih:=join_loop hx hl hb k y z r (i + 1) (acc + a.length) h1 h3 hacc
  have e1:IntKind.wrap .i64 (9223372036854775807 - (acc:Int))=9223372036854775807 - (acc:Int):=wrap_i64 (by omega) (by omega)
  have d:decide (9223372036854775807 - (acc:Int) < (a.length:Int))=false:=decide_eq_false (by omega)
  have e2:IntKind.wrap .i64 ((acc:Int) + (a.length:Int))=((acc + a.length:Nat):Int):=by rw [wrap_i64 (by omega) (by omega)]; rfl
  have e3:acc + sumL (a::r)=acc + a.length + sumL r:=by simp [sumL]; omega
  rw [ql_strings_Join,e3]
  simp only [bl_strings_Join,lt_t h1,q1,q2,e1,d,e2,e,ih,k_s,k_x,Int.reduceBEq,Int.reduceBNe,Int.reduceLT,Int.reduceLE,Int.reduceGT,Int.reduceGE,Int.reduceNeg]
theorem join_loop1 {sep:Str} {x:AV} {l:List Str} {p:Nat} {H0:Hp} (hx:Rw H0 1 x (strs l)) (hl:l.length≤1000):∀ (r:List Str) (i:Nat) (H:Hp) (sl:AV) (acc:Str),i≤l.length→l.drop i=r→Rw H 1 x (strs l)→Bu H p sl acc→(∀ j∈rid x,j≠p∧j∉rid sl)→acc.length + (joT sep r).length≤16777216→
  ∃ sl' H',(∀ k:K.Fn 1,l_strings_Join1 JN GO cK k (.str sep) (.ptr p 0) x (.int .i64 (l.length:Nat)) (.int .i64 (i:Nat)) H=k (.ptr p 0) H')∧Bu H' p sl' (acc++joT sep r)∧Out (p::rid sl) H H'∧∀ j∈rid sl',j∈rid sl∨H.next≤j
 | [],i,H,sl,acc,hi,h,hxx,hB,hd,hlen=>by
  obtain rfl:=drop_nil hi h
  refine ⟨sl,H,fun k => ?_,by simpa [joT] using hB,Out.refl _ _,fun j hj => .inl hj⟩
  rw [ql_strings_Join1]
  simp only [bl_strings_Join1,lt_f,k_s,k_x,Int.reduceBEq,Int.reduceBNe,Int.reduceLT,Int.reduceLE,Int.reduceGT,Int.reduceGE,Int.reduceNeg]
 | a::r,i,H,sl,acc,hi,h,hxx,hB,hd,hlen=>by
  obtain ⟨h1,h2,h3⟩:=hd_drop h
  obtain ⟨q,q1,q2⟩:=hxx.ia1 (strs_get h2) .i64
  have e:=wrap_s h1 (by omega)
  simp only [joT,List.length_append] at hlen
  obtain ⟨sl1,H1,a1,a2,a3,a4⟩:=write_c (s:=sep) hB (by omega)
  obtain ⟨sl2,H2,b1,b2,b3,b4⟩:=write_c (s:=a) a2 (by rw [List.length_append]; omega)
  have hlt:=hxx.lt
  have hd1:∀ j∈rid x,j≠p∧j∉rid sl1:=fun j hj=>⟨(hd j hj).1,fun q=>(a4 j q).elim (hd j hj).2 fun q=>by have:=hlt j hj; omega⟩
  have hn1:=a3.nx
  have hd2:∀ j∈rid x,j≠p∧j∉rid sl2:=fun j hj=>⟨(hd j hj).1,fun q=>(b4 j q).elim (hd1 j hj).2 fun q=>by have:=hlt j hj; omega⟩
  have hx1:=hxx.out a3 fun j hj=>by rw [List.mem_cons,not_or]; exact hd j hj
  have hx2:=hx1.out b3 fun j hj=>by rw [List.mem_cons,not_or]; exact hd1 j hj
  obtain ⟨sl',H',i1,i2,i3,i4⟩:=join_loop1 (sep:=sep) hx hl r (i + 1) H2 sl2 (acc++sep++a) h1 h3 hx2 b2 hd2 (by simp only [List.length_append]; omega)
  have o2:Out (p::rid sl) H H2:=a3.then b3 fun j hj=>by
   rcases List.mem_cons.1 hj with rfl | hj
   ·exact .inl (.head _)
   ·exact (a4 j hj).imp (fun q => .tail _ q) id
  have n2:∀ j∈rid sl2,j∈rid sl∨H.next≤j:=fun j hj=>(b4 j hj).elim (fun q=>a4 j q) fun q => .inr (by omega)
  refine ⟨sl',H',fun k => ?_,by rw [joT]; simpa [List.append_assoc] using i2,o2.then i3 fun j hj => ?_,fun j hj=>(i4 j hj).elim (n2 j) fun q => .inr (by have:=o2.nx; omega)⟩
  ·rw [ql_strings_Join1]
   simp only [bl_strings_Join1,lt_t h1,q1,q2,a1,b1,e,i1,k_s,k_x,Int.reduceBEq,Int.reduceBNe,Int.reduceLT,Int.reduceLE,Int.reduceGT,Int.reduceGE,Int.reduceNeg]
  ·rcases List.mem_cons.1 hj with rfl | hj
   ·exact .inl (.head _)
   ·exact (n2 j hj).imp (fun q => .tail _ q) id
theorem joiS_len (sep:Str) (l:List Str) (h:0 < l.length):(joiS sep l).length=sep.length * (l.length - 1) + sumL l:=by
 cases l with
 | nil=>simp at h
 | cons a l=>simp only [joiS,List.length_append,joT_len,List.length_cons,sumL,List.map_cons,List.sum_cons,Nat.add_sub_cancel]; omega
theorem join_c {sep:Str} (hsep:sep.length=1) {x:AV} {l:List Str} {H:Hp} (hx:Rw H 1 x (strs l)) (hl:l.length≤200) (hb:∀ s∈l,s.length≤100000) (hsum:sumL l≤900000) (hby:∀ s∈sep::l,∀ b∈s,b < 256) :
  ∃ H',cK (.func (.func 90) [] []) [x,.str sep] H=some (.str (joiS sep l),H')∧Out [] H H':=by
 have hxl:=hx.len1
 rw [strs_len] at hxl
 match l,hx,hl,hb,hsum,hby,hxl with
 | [],hx,hl,hb,hsum,hby,hxl=>
  refine ⟨H,c_strings_Join ?_,Out.refl _ _⟩
  unfold s_strings_Join
  simp only [List.length_nil,Int.natCast_zero] at hxl
  simp only [hxl,joiS,k_s,k_x,Int.reduceBEq,Int.reduceBNe,Int.reduceLT,Int.reduceLE,Int.reduceGT,Int.reduceGE,Int.reduceNeg]
 | [a],hx,hl,hb,hsum,hby,hxl=>
  obtain ⟨q,q1,q2⟩:=hx.ia1 (i:=0) (v := .str a) rfl .i64
  refine ⟨H,c_strings_Join ?_,Out.refl _ _⟩
  unfold s_strings_Join
  simp only [List.length_cons,List.length_nil,Nat.zero_add,Int.natCast_one] at hxl
  rw [show (((0:Nat):Int))=0 from rfl] at q1
  simp only [hxl,q1,q2,joiS,joT,List.append_nil,k_s,k_x,Int.reduceBEq,Int.reduceBNe,Int.reduceLT,Int.reduceLE,Int.reduceGT,Int.reduceGE,Int.reduceNeg]
 | a::b::l,hx,hl,hb,hsum,hby,hxl=>
  generalize hm:a::b::l=L at *
  have hL2:2≤L.length:=by rw [← hm]; simp
  have hLa:L[0]? = some a:=by rw [← hm]; rfl
  obtain ⟨q,q1,q2⟩:=hx.ia1 (strs_get hLa) .i64
  rw [show (((0:Nat):Int))=0 from rfl] at q1
  have d1:(((L.length:Nat):Int) == 0)=false:=beq_false_of_ne (by omega)
  have d2:(((L.length:Nat):Int) == 1)=false:=beq_false_of_ne (by omega)
  have e1:IntKind.wrap .i64 (((L.length:Nat):Int) - 1)=((L.length - 1:Nat):Int):=by rw [wrap_i64 (by omega) (by omega)]; omega
  have e2:iquo (.int .i64 9223372036854775807) (.int .i64 ((L.length - 1:Nat):Int))=some (.int .i64 (9223372036854775807 / ((L.length - 1:Nat):Int))):=by
   rw [iquo_i _ _ _ (by omega),Int.tdiv_eq_ediv_of_nonneg (by omega)]
   congr 2
   rw [wrap_i64]
   ·have:0≤9223372036854775807 / ((L.length - 1:Nat):Int):=Int.ediv_nonneg (by omega) (by omega)
    omega
   ·exact Int.le_trans (Int.ediv_le_self _ (by omega)) (Int.le_refl _)
  have hq:(200:Int)≤9223372036854775807 / ((L.length - 1:Nat):Int):=by
   rw [Int.le_ediv_iff_mul_le (by omega)]
   omega
  have d3:decide (9223372036854775807 / ((L.length - 1:Nat):Int)≤((1:Nat):Int))=false:=decide_eq_false (by omega)
  have e3:IntKind.wrap .i64 (((1:Nat):Int) * ((L.length - 1:Nat):Int))=((L.length - 1:Nat):Int):=by rw [wrap_i64 (by omega) (by omega)]; omega
  have e4:IntKind.wrap .i64 (0 + ((L.length - 1:Nat):Int))=((L.length - 1:Nat):Int):=by rw [wrap_i64 (by omega) (by omega)]; omega
  have i1:=fun k=>join_loop hx (by omega) hb k x (.str sep) L 0 (L.length - 1) (Nat.zero_le _) List.drop_zero (by omega)
  rw [show (((0:Nat):Int))=0 from rfl] at i1
  have hnl:newCells H [.ptr0,.slice0] 185 0=some (H.next,al H [.ptr0,.slice0] 185 0):=newCells_al (by simp)
  have ho:=al_out H [.ptr0,.slice0] 185 0
  obtain ⟨sl,H1,g1,g2,g3,g4⟩:=grow_c (n:=L.length - 1 + sumL L) (by omega) (by omega) (al_cs H [.ptr0,.slice0] 185 0)
  have hlt:=hx.lt
  have hx1:=(hx.out0 ho).out g3 fun j hj=>by rw [List.mem_singleton]; have:=hlt j hj; omega
  obtain ⟨q',q1',q2'⟩:=hx1.ia1 (strs_get hLa) .i64
  rw [show (((0:Nat):Int))=0 from rfl] at q1'
  have hal:a.length≤sumL L:=by rw [← hm]; simp [sumL]
  obtain ⟨sl2,H2,b1,b2,b3,b4⟩:=write_c (s:=a) g2 (by simp; omega)
  rw [List.nil_append] at b2
  have hx2:=hx1.out b3 fun j hj=>by
   rw [List.mem_cons,not_or]
   exact ⟨by have:=hlt j hj; omega,fun q=>by have:=g4 j q; have:=hlt j hj; rw [al_nx] at *; omega⟩
  have hs2:=sll_rw hx2 (n:=L.length) (by rw [strs_len,Nat.mul_one]) (by decide) (a:=1) (b:=L.length) (lo:=some (.int .i64 1)) (hi:=none) (by omega) (Nat.le_refl _) (Bd.yes .i64 1 0) (Bd.no _)
  obtain ⟨x',x1,x2,x3⟩:=hs2
  have hdr:(((strs L).drop (1 * 1)).take ((L.length - 1) * 1))=strs (b::l):=by rw [← hm,Nat.mul_one,Nat.mul_one]; exact List.take_of_length_le (by simp [strs])
  rw [hdr] at x2
  have hx'l:=x2.len1
  rw [strs_len] at hx'l
  have hbl:(b::l).length≤1000:=by rw [← hm] at hl; simp only [List.length_cons] at *; omega
  have hn1:=g3.nx
  rw [al_nx] at hn1
  have hjl:sep.length * (b::l).length + sumL (b::l)≤1000000:=by
   rw [hsep,Nat.one_mul]
   rw [← hm] at hsum hl
   simp only [sumL,List.map_cons,List.sum_cons,List.length_cons] at *
   omega
  obtain ⟨sl3,H3,c1,c2,c3,c4⟩:=join_loop1 (sep:=sep) x2 hbl (b::l) 0 H2 sl2 a (Nat.zero_le _) List.drop_zero x2 b2 (fun j hj=>by
   have hj:=hlt j (x3 j hj)
   exact ⟨by omega,fun q=>(b4 j q).elim (fun q=>by have:=g4 j q; rw [al_nx] at this; omega) fun q=>by omega⟩) (by rw [joT_len]; omega)
  have hres:a++joT sep (b::l)=joiS sep L:=by rw [← hm]; rfl
  rw [hres] at c2
  have hrl:=joiS_len sep L (by omega)
  rw [hsep,Nat.one_mul] at hrl
  have hbytes:∀ c∈joiS sep L,c < 256:=by
   have key:∀ l:List Str,(∀ s∈l,∀ b∈s,b < 256)→∀ c∈joT sep l,c < 256:=by
    intro l
    induction l with
    | nil=>intro _ c hc; cases hc
    | cons s l ih=>
     intro h c hc
     simp only [joT,List.mem_append] at hc
     rcases hc with (hc | hc) | hc
     ·exact hby sep (.head _) c hc
     ·exact h s (.head _) c hc
     ·exact ih (fun s hs=>h s (.tail _ hs)) c hc
   intro c hc
   rw [← hres,List.mem_append] at hc
   have hm2:∀ s∈a::b::l,∀ b∈s,b < 256:=fun s hs=>hby s (.tail _ (by rw [← hm]; exact hs))
   rcases hc with hc | hc
   ·exact hm2 a (.head _) c hc
   ·exact key _ (fun s hs=>hm2 s (.tail _ hs)) c hc
  obtain ⟨H4,s1,s2⟩:=string_c c2 (by omega) (by omega) hbytes
  have n2:=b3.nx
  have n3:=c3.nx
  have hr2:∀ j∈rid sl2,H.next≤j:=fun j hj=>(b4 j hj).elim (fun q=>by have:=g4 j q; rw [al_nx] at this; omega) fun q=>by omega
  have hr3:∀ j∈rid sl3,H.next≤j:=fun j hj=>(c4 j hj).elim (hr2 j) fun q=>by omega
  have o1:Out [] H H1:=ho.then g3 fun j hj=>by rw [List.mem_singleton] at hj; exact .inr (by omega)
  have o2:Out [] H H2:=o1.then b3 fun j hj=>by
   rcases List.mem_cons.1 hj with rfl | hj
   ·exact .inr (by omega)
   ·have:=g4 j hj; rw [al_nx] at this; exact .inr (by omega)
  have o3:Out [] H H3:=o2.then c3 fun j hj=>by
   rcases List.mem_cons.1 hj with rfl | hj
   ·exact .inr (by omega)
   ·exact .inr (hr2 j hj)
  refine ⟨H4,c_strings_Join ?_,o3.then s2 fun j hj => .inr (hr3 j hj)⟩
  unfold s_strings_Join
  have e5:((L.length - 1 + sumL L:Nat):Int)=((L.length - 1 + sumL L:Nat):Int):=rfl
  rw [show (((0:Nat):Int))=0 from rfl] at c1
  have d4:decide ((0:Int) < ((1:Nat):Int))=true:=rfl
  simp only [hxl,d1,d2,hsep,d4,e1,e2,d3,e3,e4,i1,hnl,g1,q1',q2',b1,x1,hx'l,c1,s1,ge_iff_le,k_s,k_x,Int.reduceBEq,Int.reduceBNe,Int.reduceLT,Int.reduceLE,Int.reduceGT,Int.reduceGE,Int.reduceNeg]
end Go.Proofs.YtkhhnpkmblldbaaGreatDoor.DfK
namespace Go.Proofs.YtkhhnpkmblldbaaGreatDoor.DfG
set_option linter.unusedVariables false
set_option linter.unusedSimpArgs false
theorem countP_le {p q:Nat→Bool} (h:∀ x,p x=true→q x=true) (l:List Nat):l.countP p≤l.countP q:=
 List.countP_mono_left fun x _ hx=>h x hx
theorem countP_lt {p q:Nat→Bool} (h:∀ x,p x=true→q x=true) {a:Nat} (hq:q a=true) (hp:p a=false):∀ l:List Nat,a∈l→l.countP p < l.countP q
 | [],hm=>by cases hm
 | b::l,hm=>by
  rw [List.countP_cons,List.countP_cons]
  have hle:=countP_le h l
  rcases List.mem_cons.1 hm with rfl | hm
  ·rw [hq,hp]; simp; omega
  ·have hlt:=countP_lt h hq hp l hm
   cases hpb:p b with
   | true=>rw [h b hpb]; simp; omega
   | false=>cases q b <;> simp <;> omega
section
variable (sc:Nat→List Nat)
def exp1 (steps:Nat) (s:List Nat × List Nat) (b:Nat):List Nat × List Nat:=if s.1[b]? = some 0 then (s.1.set b steps,s.2++[b]) else s
def expd (steps:Nat) (bs:List Nat) (s:List Nat × List Nat):List Nat × List Nat:=bs.foldl (exp1 steps) s
def lev (steps:Nat) (l:List Nat) (s:List Nat × List Nat):List Nat × List Nat:=l.foldl (fun s a=>expd steps (sc a) s) s
def farL:Nat→List Nat→List Nat→Nat→List Nat
 | 0,_,out,_=>out
 | f + 1,l,out,steps=>if l=[] then out else farL f (lev sc steps l (out,[])).2 (lev sc steps l (out,[])).1 (steps + 1)
def far (N n:Nat):List Nat:=farL sc (N + 1) [n] (List.replicate N 0) 1
end
def zeros (l:List Nat):Nat:=l.countP (· == 0)
def V (out:List Nat) (b:Nat):Bool:=match out[b]? with | some (_ + 1)=>true | _=>false
theorem V_set {out:List Nat} {b steps c:Nat} (h:out[b]? = some 0) (hs:0 < steps):V (out.set b steps) c=(V out c || c == b):=by
 unfold V
 have hb:=(List.getElem?_eq_some_iff.1 h).1
 rw [List.getElem?_set]
 by_cases hc:b=c
 ·subst hc
  rw [if_pos rfl,if_pos hb]
  obtain ⟨k,rfl⟩:∃ k,steps=k + 1:=⟨steps - 1,by omega⟩
  simp
 ·rw [if_neg hc]
  have:(c == b)=false:=by simp; exact fun q=>hc q.symm
  rw [this,Bool.or_false]
theorem zeros_set {out:List Nat} {b steps:Nat} (h:out[b]? = some 0) (hs:0 < steps):zeros (out.set b steps) + 1=zeros out:=by
 unfold zeros
 induction out generalizing b with
 | nil=>simp at h
 | cons a l ih=>
  cases b with
  | zero=>
   simp only [List.getElem?_cons_zero,Option.some.injEq] at h
   subst h
   rw [List.set_cons_zero,List.countP_cons,List.countP_cons]
   have:(steps == 0)=false:=by simp; omega
   rw [this]; simp
  | succ b=>
   simp only [List.getElem?_cons_succ] at h
   rw [List.set_cons_succ,List.countP_cons,List.countP_cons]
   have:=ih h
   omega
structure Step (s s':List Nat × List Nat) (bs:Nat→Prop):Prop where
 len:s'.1.length=s.1.length
 zer:zeros s'.1 + s'.2.length=zeros s.1 + s.2.length
 mono:∀ c,V s.1 c=true→V s'.1 c=true
 keep:∀ c∈s.2,c∈s'.2
 new:∀ c,V s'.1 c=true→V s.1 c=true∨(bs c∧c∈s'.2)
 from':∀ c∈s'.2,c∈s.2∨(bs c∧V s'.1 c=true)
 all:∀ c,bs c→c < s.1.length→V s'.1 c=true
theorem Step.refl (s:List Nat × List Nat):Step s s (fun _=>False):=⟨rfl,rfl,fun _ h=>h,fun _ h=>h,fun _ h => .inl h,fun _ h => .inl h,fun _ h=>h.elim⟩
theorem Step.trans {s s' s'':List Nat × List Nat} {p q:Nat→Prop} (h:Step s s' p) (k:Step s' s'' q):Step s s'' (fun c=>p c∨q c) where
 len:=k.len.trans h.len
 zer:=k.zer.trans h.zer
 mono:=fun c hc=>k.mono c (h.mono c hc)
 keep:=fun c hc=>k.keep c (h.keep c hc)
 new:=fun c hc=>(k.new c hc).elim (fun a=>(h.new c a).imp id fun b=>⟨.inl b.1,k.keep c b.2⟩) (fun a => .inr ⟨.inr a.1,a.2⟩)
 from':=fun c hc=>(k.from' c hc).elim (fun a=>(h.from' c a).imp id fun b=>⟨.inl b.1,k.mono c b.2⟩) (fun a => .inr ⟨.inr a.1,a.2⟩)
 all:=fun c hc hl=>hc.elim (fun a=>k.mono c (h.all c a hl)) (fun a=>k.all c a (by rw [h.len]; exact hl))
theorem Step.congr {s s':List Nat × List Nat} {p q:Nat→Prop} (h:Step s s' p) (hpq:∀ c,p c ↔ q c):Step s s' q:=
 ⟨h.len,h.zer,h.mono,h.keep,fun c hc=>(h.new c hc).imp id fun b=>⟨(hpq c).1 b.1,b.2⟩,fun c hc=>(h.from' c hc).imp id fun b=>⟨(hpq c).1 b.1,b.2⟩,fun c hc hl=>h.all c ((hpq c).2 hc) hl⟩
theorem V_of {out:List Nat} {b:Nat} (hb:b < out.length) (h:out[b]? ≠ some 0):V out b=true:=by
 unfold V
 rw [List.getElem?_eq_getElem hb] at h ⊢
 cases hx:out[b] with
 | zero=>rw [hx] at h; exact absurd rfl h
 | succ k=>rfl
theorem exp1_step {steps:Nat} (hs:0 < steps) (s:List Nat × List Nat) (b:Nat):Step s (exp1 steps s b) (fun c=>c=b):=by
 unfold exp1
 split
 ·rename_i h
  have hz:=zeros_set h hs
  refine ⟨List.length_set,by simp; omega,fun c hc => ?_,fun c hc=>List.mem_append_left _ hc,fun c hc => ?_,fun c hc => ?_,fun c hc hl => ?_⟩
  ·rw [V_set h hs,hc]; rfl
  ·rw [V_set h hs,Bool.or_eq_true] at hc
   refine hc.imp id fun q => ?_
   have q:c=b:=by simpa using q
   exact ⟨q,by subst q; simp⟩
  ·rcases List.mem_append.1 hc with hc | hc
   ·exact .inl hc
   ·rw [List.mem_singleton] at hc
    subst hc
    exact .inr ⟨rfl,by rw [V_set h hs]; simp⟩
  ·subst hc; rw [V_set h hs]; simp
 ·rename_i h
  exact ⟨rfl,rfl,fun _ h=>h,fun _ h=>h,fun _ h => .inl h,fun _ h => .inl h,fun c hc hl=>by subst hc; exact V_of hl h⟩
theorem expd_step {steps:Nat} (hs:0 < steps):∀ (bs:List Nat) (s:List Nat × List Nat),Step s (expd steps bs s) (fun c=>c∈bs)
 | [],s=>(Step.refl s).congr fun c=>by simp
 | b::bs,s=>((exp1_step hs s b).trans (expd_step hs bs _)).congr fun c=>by simp
theorem lev_step {sc:Nat→List Nat} {steps:Nat} (hs:0 < steps):∀ (l:List Nat) (s:List Nat × List Nat),Step s (lev sc steps l s) (fun c=>∃ a∈l,c∈sc a)
 | [],s=>(Step.refl s).congr fun c=>by simp
 | a::l,s=>((expd_step hs (sc a) s).trans (lev_step hs l _)).congr fun c=>by simp
theorem farL_end {sc:Nat→List Nat} {N n:Nat} (hN:∀ a,∀ b∈sc a,b < N) {C:Nat→Prop} (hC0:∀ b∈sc n,C b) (hC:∀ a,C a→∀ b∈sc a,C b) :
  ∀ (f:Nat) (l out:List Nat) (steps:Nat),0 < steps→out.length=N→(l=[]∨zeros out < f)→(∀ a,(a=n∨V out a=true)→a∈l∨∀ b∈sc a,V out b=true)→
   (∀ a∈l,a=n∨C a)→(∀ a,V out a=true→C a)→
   (farL sc f l out steps).length=N∧(∀ a,(a=n∨V (farL sc f l out steps) a=true)→∀ b∈sc a,V (farL sc f l out steps) b=true)∧∀ a,V (farL sc f l out steps) a=true→C a
 | 0,l,out,steps,hs,hl,hz,h1,h2,h3=>by
  have:l=[]:=hz.resolve_right (by omega)
  subst this
  exact ⟨hl,fun a ha=>(h1 a ha).resolve_left (by simp),h3⟩
 | f + 1,l,out,steps,hs,hl,hz,h1,h2,h3=>by
  unfold farL
  split
  ·rename_i h
   subst h
   exact ⟨hl,fun a ha=>(h1 a ha).resolve_left (by simp),h3⟩
  ·rename_i hne
   have hz:=hz.resolve_left hne
   have S:=lev_step (sc:=sc) hs l (out,[])
   refine farL_end hN hC0 hC f _ _ (steps + 1) (by omega) (S.len.trans hl) ?_ ?_ ?_ ?_
   ·have:=S.zer
    simp only [List.length_nil,Nat.add_zero] at this
    cases hx:(lev sc steps l (out,[])).2 with
    | nil=>exact .inl rfl
    | cons x y=>rw [hx] at this; simp only [List.length_cons] at this; exact .inr (by omega)
   ·intro a ha
    have key:(a=n∨V out a=true)→a∈(lev sc steps l (out,[])).2∨∀ b∈sc a,V (lev sc steps l (out,[])).1 b=true:=by
     intro ha
     refine .inr fun b hb => ?_
     rcases h1 a ha with q | q
     ·exact S.all b ⟨a,q,hb⟩ (by rw [hl]; exact hN a b hb)
     ·exact S.mono b (q b hb)
    rcases ha with ha | ha
    ·exact key (.inl ha)
    ·rcases S.new a ha with q | q
     ·exact key (.inr q)
     ·exact .inl q.2
   ·intro a ha
    rcases S.from' a ha with q | ⟨⟨x,hx,hax⟩,_⟩
    ·cases q
    ·refine .inr ?_
     rcases h2 x hx with rfl | q
     ·exact hC0 a hax
     ·exact hC x q a hax
   ·intro a ha
    rcases S.new a ha with q | ⟨⟨x,hx,hax⟩,_⟩
    ·exact h3 a q
    ·rcases h2 x hx with rfl | q
     ·exact hC0 a hax
     ·exact hC x q a hax
theorem V_rep (N b:Nat):V (List.replicate N 0) b=false:=by
 unfold V
 rw [List.getElem?_replicate]
 split
 ·rename_i h
  split at h <;> cases h
 ·rfl
theorem zeros_rep (N:Nat):zeros (List.replicate N 0)=N:=by unfold zeros; rw [List.countP_replicate]; simp
theorem far_end {sc:Nat→List Nat} {N n:Nat} (hN:∀ a,∀ b∈sc a,b < N) {C:Nat→Prop} (hC0:∀ b∈sc n,C b) (hC:∀ a,C a→∀ b∈sc a,C b) :
  (far sc N n).length=N∧(∀ a,(a=n∨V (far sc N n) a=true)→∀ b∈sc a,V (far sc N n) b=true)∧∀ a,V (far sc N n) a=true→C a:=
 farL_end hN hC0 hC _ _ _ _ (by decide) (by simp) (.inr (by rw [zeros_rep]; omega)) (fun a ha=>by
  rcases ha with rfl | ha
  ·exact .inl (.head _)
  ·rw [V_rep] at ha; cases ha) (fun a ha=>by rw [List.mem_singleton] at ha; exact .inl ha) (fun a ha=>by rw [V_rep] at ha; cases ha)
end Go.Proofs.YtkhhnpkmblldbaaGreatDoor.DfG
namespace Go.Proofs.YtkhhnpkmblldbaaGreatDoor.DfK
open Go Am Am.K DfEnv DfM LibP
set_option linter.unusedVariables false
set_option linter.unusedSimpArgs false
set_option maxRecDepth 10000
theorem gin_c (N n:Int) (e:AV) (he:oneC e=true) (H:Hp):cK (.func (.func 180) [] []) [.agg [.int .i64 N,e],.int .i64 n] H=some (.bool (decide (0≤n) && decide (n < N)),al H [.int .i64 N,e] 206 0):=by
 refine c__graph_Graph_in ?_
 unfold s__graph_Graph_in
 by_cases h1:0≤n
 ·simp (disch:=(first | assumption | omega | (simp only [k_d,k_c,Nat.reduceAdd,Nat.reduceLeDiff,Nat.reduceLT] <;> fail) | (simp only [k_c]; omega) | (simp only [k_d,k_c,Nat.reduceAdd,Nat.reduceLeDiff,Nat.reduceLT, *] <;> fail) | fail)) only [h1,Bool.true_and,k_a,k_b,Nat.reduceAdd,k_s,k_x,Int.reduceBEq,Int.reduceBNe,Int.reduceLT,Int.reduceLE,Int.reduceGT,Int.reduceGE,Int.reduceNeg]
 ·simp (disch:=(first | assumption | omega | (simp only [k_d,k_c,Nat.reduceAdd,Nat.reduceLeDiff,Nat.reduceLT] <;> fail) | (simp only [k_c]; omega) | (simp only [k_d,k_c,Nat.reduceAdd,Nat.reduceLeDiff,Nat.reduceLT, *] <;> fail) | fail)) only [h1,Bool.false_and,k_a,k_b,Nat.reduceAdd,k_s,k_x,Int.reduceBEq,Int.reduceBNe,Int.reduceLT,Int.reduceLE,Int.reduceGT,Int.reduceGE,Int.reduceNeg]
theorem din_c (n a b:Int) (H:Hp):cK (.func (.func 124) [] []) [.int .i64 n,.int .i64 a,.int .i64 b] H=some (.bool (decide (a≤n) && decide (n≤b)),H):=by
 refine c_def_in ?_
 unfold s_def_in
 by_cases h1:a≤n
 ·simp (disch:=(first | assumption | omega | (simp only [k_d,k_c,Nat.reduceAdd,Nat.reduceLeDiff,Nat.reduceLT] <;> fail) | (simp only [k_c]; omega) | (simp only [k_d,k_c,Nat.reduceAdd,Nat.reduceLeDiff,Nat.reduceLT, *] <;> fail) | fail)) only [h1,Bool.true_and,k_a,k_b,Nat.reduceAdd,k_s,k_x,Int.reduceBEq,Int.reduceBNe,Int.reduceLT,Int.reduceLE,Int.reduceGT,Int.reduceGE,Int.reduceNeg]
 ·simp (disch:=(first | assumption | omega | (simp only [k_d,k_c,Nat.reduceAdd,Nat.reduceLeDiff,Nat.reduceLT] <;> fail) | (simp only [k_c]; omega) | (simp only [k_d,k_c,Nat.reduceAdd,Nat.reduceLeDiff,Nat.reduceLT, *] <;> fail) | fail)) only [h1,Bool.false_and,k_a,k_b,Nat.reduceAdd,k_s,k_x,Int.reduceBEq,Int.reduceBNe,Int.reduceLT,Int.reduceLE,Int.reduceGT,Int.reduceGE,Int.reduceNeg]
abbrev Ed:=Nat × Nat
def edC (e:Ed):List AV:=[.int .i64 e.1,.int .i64 e.2]
def edg (E:List Ed):List (List AV):=E.map edC
theorem edg_len (E:List Ed):(edg E).length=E.length:=by simp [edg]
theorem edg_get {E:List Ed} {i:Nat} {e:Ed} (h:E[i]? = some e):(edg E)[i]? = some (edC e):=by simp [edg,h]
theorem eqE (a b c d:Int) (n:Nat) (H:Hp):eqA P (n + 2) 236 (.agg [.int .i64 a,.int .i64 b]) (.agg [.int .i64 c,.int .i64 d]) H=some (a == c && b == d):=by
 have hu:P.underlying 236=some (.array 2 3):=Tryz.underlying236
 have hi:P.underlying 3=some (.int .i64):=Tryz.underlying3
 have hs:sz P 3=some 1:=by kernel_rfl
 have ha:aggT P 3=some false:=by kernel_rfl
 have h1:∀ x y:Int,eqA P (n + 1) 3 (.int .i64 x) (.int .i64 y) H=some (x == y):=by
  intro x y; unfold eqA; simp only [hi,if_true]
 rw [eqA.eq_def]
 simp only [hu,hs]
 show allO _ [0,1]=_
 simp only [allO,partA,ha,Option.bind_eq_bind,Option.bind_some,Nat.zero_mul,Nat.one_mul,List.getElem?_cons_zero,List.getElem?_cons_succ,h1]
 cases hac:(a == c) <;> cases hbd:(b == d) <;> simp [h1,hac,hbd]
def edM (E:List (Ed × Nat)):List ME:=E.map fun x=>⟨.agg (edC x.1),.bool true,x.2⟩
theorem findE {H:Hp} {e:Ed}:∀ (E:List (Ed × Nat)) (i:Nat),(∀ x∈E,x.1≠e)→findK P H 236 (.agg (edC e)) (edM E) i=some none
 | [],i,_=>rfl
 | x::E,i,h=>by
  have h1:=eqE e.1 e.2 x.1.1 x.1.2 18 H
  have h2:(((e.1:Nat):Int) == ((x.1.1:Nat):Int) && ((e.2:Nat):Int) == ((x.1.2:Nat):Int))=false:=by
   rw [← Bool.not_eq_true,Bool.and_eq_true,beq_iff_eq,beq_iff_eq]
   intro q
   exact h x (.head _) (Prod.ext (by have:=q.1; omega) (by have:=q.2; omega))
  rw [h2] at h1
  show findK P H _ (.agg (edC e)) (⟨.agg (edC x.1),.bool true,x.2⟩::edM E) i=_
  unfold findK
  have h1':eqA P 20 236 (.agg (edC e)) (.agg (edC x.1)) H=some false:=h1
  rw [h1']
  exact findE E (i + 1) fun y hy=>h y (.tail _ hy)
theorem chkE (e:Ed):chkK P 20 236 (.agg (edC e))=true:=by kernel_rfl
theorem lkE {H:Hp} {m c:Nat} {E:List (Ed × Nat)} {e:Ed} (hm:Mp H m (edM E) c) (h:∀ x∈E,x.1≠e):lookupA P 253 (.map m) (.agg (edC e)) false H=some (.bool false):=by
 have hu:P.underlying 253=some (.map 236 4):=Tryz.underlying253
 have hz:((P.info? 4).bind (·.zero)).bind ofC=some (.bool false):=by kernel_rfl
 unfold lookupA
 simp only [hu,chkE,cond_true,mapOf_m hm,findE E 0 h,hz,Option.map_some,cond_false]
theorem upE {H:Hp} {m c:Nat} {E:List (Ed × Nat)} {e:Ed} (hm:Mp H m (edM E) c) (h:∀ x∈E,x.1≠e):∃ H',mapUpd P 253 (.map m) (.agg (edC e)) (.bool true) H=some H'∧Mp H' m (edM (E++[(e,c)])) (c + 1)∧Out [m] H H'∧H'.next=H.next:=by
 have hu:P.underlying 253=some (.map 236 4):=Tryz.underlying253
 have he:edM (E++[(e,c)])=edM E++[⟨.agg (edC e),.bool true,c⟩]:=by simp [edM]
 rw [he]
 refine ⟨_,?_,(hm.set _ _).1,(hm.set _ _).2,rfl⟩
 unfold mapUpd
 simp only [hu,chkE,cond_true,hm.2,findE E 0 h]
structure GoodE (N:Nat) (E:List Ed):Prop where
 n:N≤16
 lt:∀ e∈E,e.1 < N∧e.2 < N∧e.1≠e.2
 nd:E.Nodup
 len:E.length≤300
theorem good_loop {N:Nat} {E:List Ed} {x:AV} {g m:Nat} {H0:Hp} (hE:GoodE N E) (hx:RL H0 2 x (edg E)) (hg:Cs H0 g [.int .i64 N,x] 206 0) (hgm:g≠m) (hxm:∀ j∈rid x,j≠m) (k:K.Fn 0):∀ (r:List Ed) (i:Nat) (H:Hp) (M:List (Ed × Nat)) (c:Nat),i≤E.length→E.drop i=r→Out [m] H0 H→Mp H m (edM M) c→M.map (·.1)=E.take i→
  ∃ H',l_graph_Good JN GO cK k (.ptr g 0) (.map m) x (.int .i64 (E.length:Nat)) (.int .i64 (i:Nat)) H=k H'∧Out [m] H H'
 | [],i,H,M,c,hi,h,ho,hm,hM=>by
  obtain rfl:=drop_nil hi h
  refine ⟨H,?_,Out.refl _ _⟩
  rw [ql_graph_Good]
  simp only [bl_graph_Good,lt_f,k_s,k_x,Int.reduceBEq,Int.reduceBNe,Int.reduceLT,Int.reduceLE,Int.reduceGT,Int.reduceGE,Int.reduceNeg]
 | e::r,i,H,M,c,hi,h,ho,hm,hM=>by
  obtain ⟨h1,h2,h3⟩:=hd_drop h
  obtain ⟨l1,l2,l3⟩:=hE.lt e (List.mem_of_getElem? h2)
  obtain ⟨b,o,q1,q2,q3,q4,_⟩:=(hx.out ho fun j hj=>by rw [List.mem_singleton]; exact hxm j hj).at (by decide) (edg_get h2)
  have hgH:=hg.out ho (by rw [List.mem_singleton]; exact hgm)
  have hgl:=hgH.1
  have hml:=hm.1
  have hg2:=hgH.cellsAt 2 0 (by simp)
  have es:=wrap_s h1 (by have:=hE.len; omega)
  have d1:decide ((0:Int)≤((e.1:Nat):Int))=true:=decide_eq_true (by omega)
  have d2:decide (((e.1:Nat):Int) < (N:Int))=true:=decide_eq_true (by omega)
  have d3:decide ((0:Int)≤((e.2:Nat):Int))=true:=decide_eq_true (by omega)
  have d4:decide (((e.2:Nat):Int) < (N:Int))=true:=decide_eq_true (by omega)
  have d5:(((e.1:Nat):Int) == ((e.2:Nat):Int))=false:=beq_false_of_ne (by omega)
  have hne:∀ y∈M,y.1≠e:=by
   intro y hy heq
   have h4:y.1∈E.take i:=by rw [← hM]; exact List.mem_map_of_mem hy
   have hnd:=hE.nd
   rw [← List.take_append_drop i E,h,List.nodup_append] at hnd
   exact hnd.2.2 _ h4 e (.head _) heq
  have hx1:=hx.one
  have ha1:Mp (al (al (al H (edC e) 236 0) [.int .i64 N,x] 206 0) [.int .i64 N,x] 206 0) m (edM M) c:=((hm.out (al_out H _ _ _) (by simp)).out (al_out _ _ _ _) (by simp)).out (al_out _ _ _ _) (by simp)
  obtain ⟨H1,u1,u2,u3,u4⟩:=upE ha1 hne
  have hnext:(al (al (al H (edC e) 236 0) [.int .i64 N,x] 206 0) [.int .i64 N,x] 206 0).next=H.next + 3:=rfl
  have o1:Out [m] H H1:=((((al_out H (edC e) 236 0).al [.int .i64 N,x] 206 0).al [.int .i64 N,x] 206 0).mono (S':=[m]) (fun j hj=>by cases hj)).trans u3
  obtain ⟨H',i1,i2⟩:=good_loop hE hx hg hgm hxm k r (i + 1) H1 (M++[(e,c)]) (c + 1) h1 h3 (ho.trans o1) u2 (by rw [List.map_append,hM,List.take_add_one,h2]; rfl)
  refine ⟨H',?_,o1.trans i2⟩
  have lk:=lkE ha1 hne
  have q4':cellsAt H b o 2=some (edC e):=q4
  have q5:cellsAt H g 0 2=some [.int .i64 N,x]:=hg2
  have e0:(edC e)[0]? = some (.int .i64 e.1):=rfl
  have e1:(edC e)[1]? = some (.int .i64 e.2):=rfl
  have e2:(edC e).take 2=edC e:=rfl
  have elen:(edC e).length=2:=rfl
  have hall:(edC e).all oneC=true:=rfl
  have st0:st 2 (.ptr H.next 0) (.agg (edC e)) (al H [.int .i64 0,.int .i64 0] 236 0)=some (al H (edC e) 236 0):=st_alN rfl rfl rfl (by decide) rfl
  rw [ql_graph_Good]
  simp (disch:=(first | assumption | omega | (simp only [k_d,k_c,Nat.reduceAdd,Nat.reduceLeDiff,Nat.reduceLT] <;> fail) | (simp only [k_c]; omega) | (simp only [k_d,k_c,Nat.reduceAdd,Nat.reduceLeDiff,Nat.reduceLT, *] <;> fail) | fail)) only [bl_graph_Good,lt_t h1,q1,q4',q5,st0,e0,e1,e2,elen,gin_c _ _ _ hx1,d1,d2,d3,d4,d5,lk,u1,es,i1,Bool.and_self,k_a,k_b,Nat.reduceAdd,k_s,k_x,Int.reduceBEq,Int.reduceBNe,Int.reduceLT,Int.reduceLE,Int.reduceGT,Int.reduceGE,Int.reduceNeg]
abbrev gv (N:Nat) (x:AV):AV := .agg [.int .i64 N,x]
theorem good_c {N:Nat} {E:List Ed} {x:AV} {H:Hp} (hE:GoodE N E) (hx:RL H 2 x (edg E)):∃ H',cK (.func (.func 160) [] []) [gv N x] H=some (.bool true,H')∧Out [] H H':=by
 have hx1:=hx.one
 have hN:=hE.n
 have ho1:=al_out H [.int .i64 N,x] 206 0
 obtain ⟨H2,m1,m2,m3,m4⟩:=mk0_ok (al H [.int .i64 N,x] 206 0)
 have ho2:Out [] H H2:=ho1.trans m3
 rw [al_nx] at m1 m2
 have hlt:=hx.1.lt
 obtain ⟨H',i1,i2⟩:=good_loop (g:=H.next) (m:=H.next + 1) hE (hx.out0 ho2) ((al_cs H [.int .i64 N,x] 206 0).out m3 (by simp)) (by omega) (fun j hj=>by have:=hlt j hj; omega) (fun h=>some (.bool true,h)) E 0 H2 [] 0 (Nat.zero_le _) List.drop_zero (Out.refl _ _) m2 rfl
 refine ⟨H',c_graph_Good ?_,ho2.then i2 fun j hj=>by rw [List.mem_singleton] at hj; exact .inr (by omega)⟩
 have hl:=(hx.out0 ho2).len (by decide)
 rw [edg_len] at hl
 have d1:decide ((N:Int) < 0)=false:=decide_eq_false (by omega)
 have d2:decide ((16:Int) < (N:Int))=false:=decide_eq_false (by omega)
 rw [show (((0:Nat):Int))=0 from rfl] at i1
 have hc2:cellAt H2 H.next 1=some x:=by
  rw [m3.cellAt (by rw [al_nx]; omega) (by simp)]
  exact (al_cs H [.int .i64 N,x] 206 0).cellAt rfl
 unfold s_graph_Good
 simp (disch:=(first | assumption | omega | (simp only [k_d,k_c,Nat.reduceAdd,Nat.reduceLeDiff,Nat.reduceLT] <;> fail) | (simp only [k_c]; omega) | (simp only [k_d,k_c,Nat.reduceAdd,Nat.reduceLeDiff,Nat.reduceLT, *] <;> fail) | fail)) only [d1,d2,m1,hl,i1,hc2,k_a,k_b,Nat.reduceAdd,k_s,k_x,Int.reduceBEq,Int.reduceBNe,Int.reduceLT,Int.reduceLE,Int.reduceGT,Int.reduceGE,Int.reduceNeg]
def besN (E:List Ed) (n:Nat) (end1:Bool):List Nat:=E.filterMap fun e=>if (bif end1 then e.2 else e.1)=n then some (bif end1 then e.1 else e.2) else none
def nats (l:List Nat):List Int:=l.map fun (n:Nat)=>(n:Int)
theorem nats_len (l:List Nat):(nats l).length=l.length:=by simp [nats]
theorem nats_app (a b:List Nat):nats (a++b)=nats a++nats b:=by simp [nats]
theorem besN_le (E:List Ed) (n:Nat) (b:Bool):(besN E n b).length≤E.length:=List.length_filterMap_le _ _
theorem bes_loop {N:Nat} {E:List Ed} {x:AV} {H0:Hp} (b1:Bool) {n:Nat} (hE:E.length≤300) (hx:RL H0 2 x (edg E)):∀ (r:List Ed) (i:Nat) (H:Hp) (y:AV) (acc:List Nat) (S:List Nat),i≤E.length→E.drop i=r→Out S H0 H→(∀ j∈S,H0.next≤j)→Ow H 3 1 y (ints (nats acc))→(∀ j∈rid y,H0.next≤j)→acc.length≤i→
  ∃ y' H',(∀ k:K.Fn 1,l_graph_beside JN GO cK k (.int .i64 n) (.int .i64 (bif b1 then 1 else 0)) y x (.int .i64 (E.length:Nat)) (.int .i64 (i:Nat)) H=k y' H')∧Ow H' 3 1 y' (ints (nats (acc++besN r n b1)))∧Out (rid y) H H'∧∀ j∈rid y',j∈rid y∨H.next≤j
 | [],i,H,y,acc,S,hi,h,ho,hS,hy,hyr,ha=>by
  obtain rfl:=drop_nil hi h
  refine ⟨y,H,fun k => ?_,by simpa [besN] using hy,Out.refl _ _,fun j hj => .inl hj⟩
  rw [ql_graph_beside]
  simp only [bl_graph_beside,lt_f,k_s,k_x,Int.reduceBEq,Int.reduceBNe,Int.reduceLT,Int.reduceLE,Int.reduceGT,Int.reduceGE,Int.reduceNeg]
 | e::r,i,H,y,acc,S,hi,h,ho,hS,hy,hyr,ha=>by
  obtain ⟨h1,h2,h3⟩:=hd_drop h
  have hxl:=hx.1.lt
  obtain ⟨b,o,q1,q2,q3,q4,_⟩:=(hx.out ho fun j hj=>fun q=>by have:=hS j q; have:=hxl j hj; omega).at (by decide) (edg_get h2)
  have es:=wrap_s h1 (by omega)
  have q4':cellsAt H b o 2=some (edC e):=q4
  have e0:(edC e)[0]? = some (.int .i64 e.1):=rfl
  have e1:(edC e)[1]? = some (.int .i64 e.2):=rfl
  have elen:(edC e).length=2:=rfl
  have st0:st 2 (.ptr H.next 0) (.agg (edC e)) (al H [.int .i64 0,.int .i64 0] 236 0)=some (al H (edC e) 236 0):=st_alN rfl rfl rfl (by decide) rfl
  have ho1:=al_out H (edC e) 236 0
  have w0:IntKind.wrap .i64 (1 - 0)=1:=rfl
  have w1:IntKind.wrap .i64 (1 - 1)=0:=rfl
  by_cases hq:(bif b1 then e.2 else e.1)=n
  ·have hb:besN (e::r) n b1=(bif b1 then e.1 else e.2)::besN r n b1:=by simp [besN,hq]
   obtain ⟨y1,H1,p1,p2,p3,p4,p5⟩:=push_ok (el2:=3) (z:=[(.int .i64 0)]) (vs:=[.int .i64 ((bif b1 then e.1 else e.2:Nat):Int)]) (hy.out ho1 (by simp)) rfl rfl (by decide) (by rw [ints_len,nats_len]; simp; omega)
   have hp2:ints (nats acc)++[.int .i64 ((bif b1 then e.1 else e.2:Nat):Int)]=ints (nats (acc++[bif b1 then e.1 else e.2])):=by rw [nats_app,ints_app]; rfl
   rw [hp2] at p2
   have o1:Out (rid y) H H1:=(ho1.mono (S':=rid y) fun j hj=>by cases hj).trans p3
   have hn1:=o1.nx
   have hn0:=ho.nx
   obtain ⟨y',H',i1,i2,i3,i4⟩:=bes_loop (N:=N) b1 (n:=n) hE hx r (i + 1) H1 y1 (acc++[bif b1 then e.1 else e.2]) (S++rid y) h1 h3 ((ho.mono (S':=S++rid y) fun j hj=>List.mem_append_left _ hj).trans (o1.mono fun j hj=>List.mem_append_right _ hj)) (fun j hj=>(List.mem_append.1 hj).elim (hS j) (hyr j)) p2 (fun j hj=>(p4 j hj).elim (hyr j) fun q=>by rw [al_nx] at q; omega) (by simp; omega)
   refine ⟨y',H',fun k => ?_,by rw [hb]; simpa [List.append_assoc] using i2,o1.then i3 fun j hj=>(p4 j hj).imp id fun q=>by rw [al_nx] at q; omega,fun j hj=>(i4 j hj).elim (fun q=>(p4 j q).imp id fun q=>by rw [al_nx] at q; omega) fun q => .inr (by omega)⟩
   have p1':=p1 (H.next + 1) rfl
   rw [ql_graph_beside]
   cases b1 with
   | true=>
    simp only [cond_true] at hq p1' i1
    subst hq
    simp (disch:=(first | assumption | omega | (simp only [k_d,k_c,Nat.reduceAdd,Nat.reduceLeDiff,Nat.reduceLT] <;> fail) | (simp only [k_c]; omega) | (simp only [k_d,k_c,Nat.reduceAdd,Nat.reduceLeDiff,Nat.reduceLT, *] <;> fail) | fail)) only [cond_true,bl_graph_beside,lt_t h1,q1,q4',st0,e0,e1,elen,w1,p1',es,i1,k_a,k_b,Nat.reduceAdd,k_s,k_x,Int.reduceBEq,Int.reduceBNe,Int.reduceLT,Int.reduceLE,Int.reduceGT,Int.reduceGE,Int.reduceNeg]
   | false=>
    simp only [cond_false] at hq p1' i1
    subst hq
    simp (disch:=(first | assumption | omega | (simp only [k_d,k_c,Nat.reduceAdd,Nat.reduceLeDiff,Nat.reduceLT] <;> fail) | (simp only [k_c]; omega) | (simp only [k_d,k_c,Nat.reduceAdd,Nat.reduceLeDiff,Nat.reduceLT, *] <;> fail) | fail)) only [cond_false,bl_graph_beside,lt_t h1,q1,q4',st0,e0,e1,elen,w0,p1',es,i1,k_a,k_b,Nat.reduceAdd,k_s,k_x,Int.reduceBEq,Int.reduceBNe,Int.reduceLT,Int.reduceLE,Int.reduceGT,Int.reduceGE,Int.reduceNeg]
  ·have hb:besN (e::r) n b1=besN r n b1:=by simp [besN,hq]
   obtain ⟨y',H',i1,i2,i3,i4⟩:=bes_loop (N:=N) b1 (n:=n) hE hx r (i + 1) (al H (edC e) 236 0) y acc S h1 h3 (ho.al _ _ _) hS (hy.out ho1 (by simp)) hyr (by omega)
   refine ⟨y',H',fun k => ?_,by rw [hb]; exact i2,(ho1.mono (S':=rid y) fun j hj=>by cases hj).trans i3,fun j hj=>(i4 j hj).imp id fun q=>by rw [al_nx] at q; omega⟩
   rw [ql_graph_beside]
   cases b1 with
   | true=>
    simp only [cond_true] at hq i1
    have hne:(((e.2:Nat):Int) == (n:Int))=false:=beq_false_of_ne (by omega)
    simp (disch:=(first | assumption | omega | (simp only [k_d,k_c,Nat.reduceAdd,Nat.reduceLeDiff,Nat.reduceLT] <;> fail) | (simp only [k_c]; omega) | (simp only [k_d,k_c,Nat.reduceAdd,Nat.reduceLeDiff,Nat.reduceLT, *] <;> fail) | fail)) only [cond_true,bl_graph_beside,lt_t h1,q1,q4',st0,e0,e1,elen,hne,es,i1,k_a,k_b,Nat.reduceAdd,k_s,k_x,Int.reduceBEq,Int.reduceBNe,Int.reduceLT,Int.reduceLE,Int.reduceGT,Int.reduceGE,Int.reduceNeg]
   | false=>
    simp only [cond_false] at hq i1
    have hne:(((e.1:Nat):Int) == (n:Int))=false:=beq_false_of_ne (by omega)
    simp (disch:=(first | assumption | omega | (simp only [k_d,k_c,Nat.reduceAdd,Nat.reduceLeDiff,Nat.reduceLT] <;> fail) | (simp only [k_c]; omega) | (simp only [k_d,k_c,Nat.reduceAdd,Nat.reduceLeDiff,Nat.reduceLT, *] <;> fail) | fail)) only [cond_false,bl_graph_beside,lt_t h1,q1,q4',st0,e0,e1,elen,hne,es,i1,k_a,k_b,Nat.reduceAdd,k_s,k_x,Int.reduceBEq,Int.reduceBNe,Int.reduceLT,Int.reduceLE,Int.reduceGT,Int.reduceGE,Int.reduceNeg]
end Go.Proofs.YtkhhnpkmblldbaaGreatDoor.DfK
namespace Go.Proofs.YtkhhnpkmblldbaaGreatDoor.DfK
open Go Am Am.K DfEnv DfM LibP DfG
set_option linter.unusedVariables false
set_option linter.unusedSimpArgs false
set_option maxRecDepth 10000
theorem sort_c {H:Hp} {x:AV} {zs:List Int} (hx:Ow H 3 1 x (ints zs)) (hl:zs.length≤16777216) :
  ∃ H',cK (.func (.func 197) [] []) [x] H=some (.tuple [],H')∧Ow H' 3 1 x (ints (LibS.sortZ zs))∧Out (rid x) H H':=by
 generalize hz:ints zs=l at hx
 cases hx with
 | nil=>
  have:zs=[]:=by simpa [ints] using hz
  subst this
  refine ⟨H,ck_prim (p:=LibS.sortP) (by kernel_rfl) rfl,?_,Out.refl _ _⟩
  simp [LibS.sortZ,ints]; exact .nil
 | @emp i off=>
  have:zs=[]:=by simpa [ints] using hz
  subst this
  refine ⟨H,ck_prim (p:=LibS.sortP) (by kernel_rfl) ?_,?_,Out.refl _ _⟩
  ·unfold LibS.sortP
   simp only [if_true]
  ·simp [LibS.sortZ,ints]; exact .emp
 | @mk i off n cap ex _ c lo hi fl hi' hg hf hlo hhi hcap hn hc hs h1 he=>
  subst hz
  rw [ints_len,Nat.mul_one] at hn
  by_cases h0:n=0
  ·subst h0
   have:zs=[]:=List.length_eq_zero_iff.1 hn
   subst this
   refine ⟨H,ck_prim (p:=LibS.sortP) (by kernel_rfl) ?_,?_,Out.refl _ _⟩
   ·unfold LibS.sortP
    simp only [if_true]
   ·exact .mk hi' hg hf hlo hhi hcap (by simp [LibS.sortZ,ints]) (by simp [LibS.sortZ,ints]) hs (by simp [LibS.sortZ,ints]) he
  ·have hsl:=LibS.sortZ_len zs
   have hro:Ro H i off (ints zs):=⟨hi',c,lo,hi,3,fl,hg,hlo,by rw [ints_len]; omega,hc⟩
   have hcells:=hro.cellsAt
   rw [ints_len,hn] at hcells
   have hbind:(Am.cellsAt H i off n).bind LibS.zsOf=some zs:=by rw [hcells]; exact LibS.zsOf_nums zs
   have hrun:LibS.sortP [.slice i off n cap ex 1] H=some (.tuple [],{ H with h:=H.h.upd i (.cells (c.puts off (LibS.nums (LibS.sortZ zs))) lo hi 3 fl) }):=by
    unfold LibS.sortP
    simp only
    rw [if_neg h0,if_pos ⟨trivial,by omega⟩,hg,Option.bind_some]
    unfold LibS.sort2
    simp only
    rw [if_pos ⟨hlo,by omega,hf⟩,hbind]
    rfl
   have hget:∀ j,(H.h.upd i (AO.cells (c.puts off (LibS.nums (LibS.sortZ zs))) lo hi 3 fl)).get j=if j=i then some (AO.cells (c.puts off (LibS.nums (LibS.sortZ zs))) lo hi 3 fl) else H.h.get j:=fun j=>Tr.get_upd _ _ _ _ (by rw [hg]; rfl)
   refine ⟨_,ck_prim (p:=LibS.sortP) (by kernel_rfl) hrun,?_,⟨Nat.le_refl _,fun j hj hn' => ?_⟩⟩
   ·refine .mk (c:=c.puts off (ints (LibS.sortZ zs))) hi' ?_ hf hlo hhi hcap (by rw [ints_len]; omega) (fun k v hk => ?_) (fun k hk => ?_) (ints_one _) he
    ·show (H.h.upd i _).get i=_
     rw [hget,if_pos rfl]
     rfl
    ·have hk':=(List.getElem?_eq_some_iff.1 hk).1
     rw [Tr.get_putsA,if_pos ⟨by omega,by omega⟩,Nat.add_sub_cancel_left]
     exact hk
    ·rw [Tr.get_putsA]
     split
     ·rename_i hin
      rw [List.getElem?_eq_getElem (by omega)]
      rfl
     ·exact hs k hk
   ·show (H.h.upd i _).get j=_
    rw [hget,if_neg (fun q=>hn' (by subst q; rw [rid_s he]; exact .head _))]
def sortN (l:List Nat):List Nat:=l.mergeSort fun x y=>decide (x≤y)
theorem sortN_len (l:List Nat):(sortN l).length=l.length:=(List.mergeSort_perm l _).length_eq
theorem sortN_mem {l:List Nat} {x:Nat}:x∈sortN l ↔ x∈l:=(List.mergeSort_perm l _).mem_iff
theorem sortZ_nats (l:List Nat):LibS.sortZ (nats l)=nats (sortN l):=by
 unfold LibS.sortZ nats sortN
 rw [List.map_mergeSort]
 intro a _ b _
 simp
def bes (E:List Ed) (n:Nat) (b:Bool):List Nat:=sortN (besN E n b)
theorem bes_len (E:List Ed) (n:Nat) (b:Bool):(bes E n b).length≤E.length:=by unfold bes; rw [sortN_len]; exact besN_le E n b
theorem mem_bes {E:List Ed} {n x:Nat}:(x∈bes E n false ↔ (n,x)∈E)∧(x∈bes E n true ↔ (x,n)∈E):=by
 unfold bes besN
 rw [sortN_mem,sortN_mem,List.mem_filterMap,List.mem_filterMap]
 constructor
 ·constructor
  ·rintro ⟨e,he,h⟩
   simp only [cond_false] at h
   split at h
   ·rename_i h1; cases h; subst h1; exact he
   ·cases h
  ·intro h; exact ⟨_,h,by simp⟩
 ·constructor
  ·rintro ⟨e,he,h⟩
   simp only [cond_true] at h
   split at h
   ·rename_i h1; cases h; subst h1; exact he
   ·cases h
  ·intro h; exact ⟨_,h,by simp⟩
theorem beside_c {N:Nat} {E:List Ed} {x:AV} {H:Hp} (b:Bool) (n:Nat) (hE:GoodE N E) (hx:RL H 2 x (edg E)) :
  ∃ y H',cK (.func (.func 181) [] []) [gv N x,.int .i64 n,.int .i64 (bif b then 1 else 0)] H=some (y,H')∧Ow H' 3 1 y (ints (nats (bes E n b)))∧Out [] H H'∧∀ j∈rid y,H.next≤j:=by
 have hx1:=hx.one
 have ho1:=al_out H [.int .i64 N,x] 206 0
 obtain ⟨H2,g1,g2⟩:=good_c hE (hx.out0 ho1)
 have hn2:=g2.nx
 rw [al_nx] at hn2
 have ho2:=ho1.trans g2
 have hx2:=hx.out0 ho2
 obtain ⟨y,H3,i1,i2,i3,i4⟩:=bes_loop (N:=N) b (n:=n) hE.len hx2 E 0 H2 .slice0 [] [] (Nat.zero_le _) List.drop_zero (Out.refl _ _) (fun j hj=>by cases hj) .nil (fun j hj=>by cases hj) (Nat.le_refl _)
 rw [List.nil_append] at i2
 have hr:∀ j∈rid y,H2.next≤j:=fun j hj=>(i4 j hj).elim (fun q=>by cases q) id
 obtain ⟨H4,s1,s2,s3⟩:=sort_c i2 (by rw [nats_len]; have:=besN_le E n b; have:=hE.len; omega)
 rw [sortZ_nats] at s2
 refine ⟨y,H4,c_graph_beside ?_,s2,ho2.trans ((i3.mono fun j hj=>by cases hj).then s3 fun j hj => .inr (hr j hj)),fun j hj=>by have:=hr j hj; omega⟩
 have hl:=hx2.len (by decide)
 rw [edg_len] at hl
 have hc2:cellAt H2 H.next 1=some x:=by
  rw [g2.cellAt (by rw [al_nx]; omega) (by simp)]
  exact (al_cs H [.int .i64 N,x] 206 0).cellAt rfl
 rw [show (((0:Nat):Int))=0 from rfl] at i1
 unfold s_graph_beside
 simp (disch:=(first | assumption | omega | (simp only [k_d,k_c,simprocAttr] <;> fail) | (simp only [k_c]; omega) | (simp only [k_d,k_c,simprocAttr, *] <;> fail) | fail)) only [g1,hc2,hl,i1,s1,k_a,k_b,k_s,k_x,simprocAttr]
theorem behind_c {N:Nat} {E:List Ed} {x:AV} {H:Hp} (n:Nat) (hE:GoodE N E) (hx:RL H 2 x (edg E)) :
  ∃ y H',cK (.func (.func 162) [] []) [gv N x,.int .i64 n] H=some (y,H')∧Ow H' 3 1 y (ints (nats (bes E n false)))∧Out [] H H'∧∀ j∈rid y,H.next≤j:=by
 have hx1:=hx.one
 have ho1:=al_out H [.int .i64 N,x] 206 0
 obtain ⟨y,H',h1,h2,h3,h4⟩:=beside_c false n hE (hx.out0 ho1)
 refine ⟨y,H',c_graph_Behind ?_,h2,ho1.trans h3,fun j hj=>by have:=h4 j hj; rw [al_nx] at this; omega⟩
 simp only [cond_false] at h1
 unfold s_graph_Behind
 simp (disch:=(first | assumption | omega | (simp only [k_d,k_c,simprocAttr] <;> fail) | (simp only [k_c]; omega) | (simp only [k_d,k_c,simprocAttr, *] <;> fail) | fail)) only [h1,k_a,k_b,k_s,k_x,simprocAttr]
theorem nats_get {l:List Nat} {i n:Nat} (h:l[i]? = some n):(ints (nats l))[i]? = some (.int .i64 (n:Int)):=ints_get (by simp [nats,h])
theorem far2_loop {N steps:Nat} {bl:List Nat} {bx:AV} {A:Nat} (hst:0 < steps) (hbl:∀ b∈bl,b < N) (hbn:bl.length≤300) (x25 x29 x30 x31:AV) (hA:A∉rid bx) :
  ∀ (r:List Nat) (i:Nat) (H:Hp) (out nx:List Nat) (ny:AV),i≤bl.length→bl.drop i=r→Rw H 1 bx (ints (nats bl))→(∀ j∈rid ny,j∉rid bx∧j≠A)→out.length=N→nx.length + r.length≤100000→Cs H A (ints (nats out)) 3 0→Ow H 3 1 ny (ints (nats nx))→
  ∃ ny' H',(∀ (j10:K.Fn 1) (j20 j23:K.Fn 4) (j35 j54:K.Fn 7),l_graph_far2 JN GO cK j10 j20 j23 j35 j54 x25 (.slice A 0 N N true 1) (.int .i64 steps) ny x29 x30 x31 bx (.int .i64 (bl.length:Nat)) (.int .i64 (i:Nat)) H=j54 x25 (.slice A 0 N N true 1) (.int .i64 steps) ny' x29 x30 x31 H')∧
   Cs H' A (ints (nats (expd steps r (out,nx)).1)) 3 0∧Ow H' 3 1 ny' (ints (nats (expd steps r (out,nx)).2))∧Out (A::rid ny) H H'∧∀ j∈rid ny',j∈rid ny∨H.next≤j
 | [],i,H,out,nx,ny,hi,h,hb,hd,hol,hnl,hC,hO=>by
  obtain rfl:=drop_nil hi h
  refine ⟨ny,H,fun j10 j20 j23 j35 j54 => ?_,hC,hO,Out.refl _ _,fun j hj => .inl hj⟩
  rw [ql_graph_far2]
  simp only [bl_graph_far2,lt_f,k_s,k_x,simprocAttr]
 | b::r,i,H,out,nx,ny,hi,h,hb,hd,hol,hnl,hC,hO=>by
  obtain ⟨h1,h2,h3⟩:=hd_drop h
  obtain ⟨q,q1,q2⟩:=hb.ia1 (nats_get h2) .i64
  have hbN:=hbl b (List.mem_of_getElem? h2)
  have es:=wrap_s h1 (by omega)
  have hov:out[b]? = some (out[b]'(by omega)):=List.getElem?_eq_getElem (by omega)
  have hld:=hC.ld (nats_get hov)
  have hia:ia 1 (.slice A 0 N N true 1) (.int .i64 (b:Int))=some (.ptr A b):=by rw [ia_s hbN]; simp
  simp only [List.length_cons] at hnl
  by_cases h0:out[b]'(by omega)=0
  ·rw [h0] at hov hld
   obtain ⟨H1,w1,w2,w3,w4⟩:=st1 hC (by decide) (o:=b) (by rw [ints_len,nats_len]; omega) (v := .int .i64 (steps:Int)) rfl
   have hset:(ints (nats out)).set b (.int .i64 (steps:Int))=ints (nats (out.set b steps)):=by simp [ints,nats,List.map_set]
   rw [hset] at w2
   have hO1:=hO.out w3 fun j hj=>by rw [List.mem_singleton]; exact (hd j hj).2
   obtain ⟨ny1,H2,p1,p2,p3,p4,p5⟩:=push_ok (el2:=3) (z:=[(.int .i64 0)]) (vs:=[.int .i64 (b:Int)]) hO1 rfl rfl (by decide) (by rw [ints_len,nats_len]; simp; omega)
   have hp2:ints (nats nx)++[.int .i64 (b:Int)]=ints (nats (nx++[b])):=by rw [nats_app,ints_app]; rfl
   rw [hp2] at p2
   have hne:A∉rid ny:=fun q=>(hd A q).2 rfl
   have hCl:=hC.1
   have hbl':=hb.lt
   obtain ⟨ny',H',i1,i2,i3,i4,i5⟩:=far2_loop (N:=N) hst hbl hbn x25 x29 x30 x31 hA r (i + 1) H2 (out.set b steps) (nx++[b]) ny1 h1 h3 ((hb.out w3 fun j hj=>by rw [List.mem_singleton]; intro e; subst e; exact hA hj).out p3 fun j hj q=>(hd j q).1 hj)
    (fun j hj=>(p4 j hj).elim (hd j) fun q=>⟨fun z=>by have:=hbl' j z; omega,by omega⟩) (by rw [List.length_set]; exact hol) (by simp; omega) (w2.out p3 hne) p2
   have hex:expd steps (b::r) (out,nx)=expd steps r (out.set b steps,nx++[b]):=by
    show expd steps r (exp1 steps (out,nx) b)=_
    unfold exp1
    rw [if_pos hov]
   have o2:Out (A::rid ny) H H2:=(w3.mono fun j hj=>by rw [List.mem_singleton] at hj; subst hj; exact .head _).trans (p3.mono fun j hj => .tail _ hj)
   have hn1:=p3.nx
   rw [hex]
   refine ⟨ny',H',fun j10 j20 j23 j35 j54 => ?_,i2,i3,o2.then i4 fun j hj => ?_,fun j hj=>(i5 j hj).elim (fun q=>(p4 j q).imp id fun q=>by omega) fun q => .inr (by omega)⟩
   ·have p1':=p1 _ rfl
    rw [ql_graph_far2]
    simp (disch:=(first | assumption | omega | (simp only [k_d,k_c,simprocAttr] <;> fail) | (simp only [k_c]; omega) | (simp only [k_d,k_c,simprocAttr, *] <;> fail) | fail)) only [bl_graph_far2,lt_t h1,q1,q2,hia,hld,Int.natCast_zero,w1,p1',es,i1,k_a,k_b,k_s,k_x,simprocAttr]
   ·rcases List.mem_cons.1 hj with rfl | hj
    ·exact .inl (.head _)
    ·exact (p4 j hj).imp (fun q => .tail _ q) fun q=>by omega
  ·have hov0:out[b]? ≠ some 0:=fun q=>h0 (by rw [hov] at q; exact Option.some.inj q)
   have hex:expd steps (b::r) (out,nx)=expd steps r (out,nx):=by
    show expd steps r (exp1 steps (out,nx) b)=_
    unfold exp1
    rw [if_neg hov0]
   obtain ⟨ny',H',i1,i2⟩:=far2_loop (N:=N) hst hbl hbn x25 x29 x30 x31 hA r (i + 1) H out nx ny h1 h3 hb hd hol (by omega) hC hO
   rw [hex]
   refine ⟨ny',H',fun j10 j20 j23 j35 j54 => ?_,i2⟩
   have hne:(((out[b]'(by omega):Nat):Int) == 0)=false:=beq_false_of_ne (by omega)
   rw [ql_graph_far2]
   simp (disch:=(first | assumption | omega | (simp only [k_d,k_c,simprocAttr] <;> fail) | (simp only [k_c]; omega) | (simp only [k_d,k_c,simprocAttr, *] <;> fail) | fail)) only [bl_graph_far2,lt_t h1,q1,q2,hia,hld,hne,es,i1,k_a,k_b,k_s,k_x,simprocAttr]
theorem far1_loop {N steps:Nat} {E:List Ed} {x:AV} {g:Nat} {l:List Nat} {lx:AV} {A:Nat} (hE:GoodE N E) (hst:0 < steps) (hln:l.length≤100) (hA:A∉rid lx∧A∉rid x∧A≠g) :
  ∀ (r:List Nat) (i:Nat) (H:Hp) (out nx:List Nat) (ny:AV),i≤l.length→l.drop i=r→Rw H 1 lx (ints (nats l))→RL H 2 x (edg E)→Cs H g [.int .i64 N,x] 206 0→(∀ j∈rid ny,j∉rid lx∧j∉rid x∧j≠g∧j≠A)→out.length=N→nx.length + r.length * 300≤90000→Cs H A (ints (nats out)) 3 0→Ow H 3 1 ny (ints (nats nx))→
  ∃ ny' H',(∀ (j10:K.Fn 1) (j20 j23:K.Fn 4),l_graph_far1 JN GO cK j10 j20 j23 (.ptr g 0) (.slice A 0 N N true 1) (.int .i64 steps) ny lx (.int .i64 (l.length:Nat)) (.int .i64 (i:Nat)) H=j23 (.ptr g 0) (.slice A 0 N N true 1) (.int .i64 steps) ny' H')∧
   Cs H' A (ints (nats (lev (fun n=>bes E n false) steps r (out,nx)).1)) 3 0∧Ow H' 3 1 ny' (ints (nats (lev (fun n=>bes E n false) steps r (out,nx)).2))∧Out (A::rid ny) H H'∧∀ j∈rid ny',j∈rid ny∨H.next≤j
 | [],i,H,out,nx,ny,hi,h,hlx,hx,hg,hd,hol,hnl,hC,hO=>by
  obtain rfl:=drop_nil hi h
  refine ⟨ny,H,fun j10 j20 j23 => ?_,hC,hO,Out.refl _ _,fun j hj => .inl hj⟩
  rw [ql_graph_far1]
  simp only [bl_graph_far1,lt_f,k_s,k_x,simprocAttr]
 | a::r,i,H,out,nx,ny,hi,h,hlx,hx,hg,hd,hol,hnl,hC,hO=>by
  obtain ⟨h1,h2,h3⟩:=hd_drop h
  obtain ⟨q,q1,q2⟩:=hlx.ia1 (nats_get h2) .i64
  have es:=wrap_s h1 (by omega)
  have hx1:=hx.one
  have hg2:=hg.cellsAt 2 0 (by simp)
  have hg2':cellsAt H g 0 2=some [.int .i64 N,x]:=hg2
  obtain ⟨bx,H1,b1,b2,b3,b4⟩:=behind_c a hE hx
  have hbl:∀ b∈bes E a false,b < N:=fun b hb=>(hE.lt _ (mem_bes.1.1 hb)).2.1
  have hbn:=bes_len E a false
  have hEl:=hE.len
  have hCl:=hC.1
  have hnyl:=hO.rw.lt
  simp only [List.length_cons,Nat.add_mul,Nat.one_mul] at hnl
  obtain ⟨ny1,H2,i1,i2,i3,i4,i5⟩:=far2_loop (N:=N) hst hbl (by omega) (.ptr g 0) lx (.int .i64 (l.length:Nat)) (.int .i64 (i:Nat)) (fun q=>by have:=b4 A q; omega) (bes E a false) 0 H1 out nx ny (Nat.zero_le _) List.drop_zero b2.rw (fun j hj=>⟨fun q=>by have:=b4 j q; have:=hnyl j hj; omega,(hd j hj).2.2.2⟩) hol (by omega) (hC.out b3 (by simp)) (hO.out b3 (by simp))
  have hn1:=b3.nx
  have hlxl:=hlx.lt
  have hxl:=hx.1.lt
  have hgl:=hg.1
  have key:∀ j,j < H.next→j≠A→j∉rid ny→H2.h.get j=H.h.get j:=fun j hj ha hn=>by
   rw [i4.2 j (by omega) (by rw [List.mem_cons,not_or]; exact ⟨ha,hn⟩),b3.2 j hj (by simp)]
  have o2:Out (A::rid ny) H H2:=(b3.mono fun j hj=>by cases hj).trans i4
  have d1:∀ j∈rid lx,j∉A::rid ny:=fun j hj=>by rw [List.mem_cons,not_or]; exact ⟨fun e=>hA.1 (e ▸ hj),fun q=>(hd j q).1 hj⟩
  have d2:∀ j∈rid x,j∉A::rid ny:=fun j hj=>by rw [List.mem_cons,not_or]; exact ⟨fun e=>hA.2.1 (e ▸ hj),fun q=>(hd j q).2.1 hj⟩
  have d3:g∉A::rid ny:=by rw [List.mem_cons,not_or]; exact ⟨fun e=>hA.2.2 e.symm,fun q=>(hd g q).2.2.1 rfl⟩
  have hsl:=(lev_step (sc:=fun n=>bes E n false) hst [a] (out,nx)).len
  have hl1:lev (fun n=>bes E n false) steps (a::r) (out,nx)=lev (fun n=>bes E n false) steps r (expd steps (bes E a false) (out,nx)):=rfl
  have hst1:=expd_step hst (bes E a false) (out,nx)
  have hz:=hst1.zer
  have hlen2:(expd steps (bes E a false) (out,nx)).2.length≤nx.length + (bes E a false).length:=by
   have key2:∀ (bs:List Nat) (s:List Nat × List Nat),(expd steps bs s).2.length≤s.2.length + bs.length:=by
    intro bs
    induction bs with
    | nil=>intro s; exact Nat.le_refl _
    | cons b bs ih=>
     intro s
     have h5:=ih (exp1 steps s b)
     have h6:(exp1 steps s b).2.length≤s.2.length + 1:=by unfold exp1; split <;> simp
     show (expd steps bs (exp1 steps s b)).2.length≤_
     simp only [List.length_cons]; omega
   exact key2 _ _
  obtain ⟨ny',H',k1,k2,k3,k4,k5⟩:=far1_loop hE hst hln hA r (i + 1) H2 _ _ ny1 h1 h3 (hlx.out o2 d1) (hx.out o2 d2) (hg.out o2 d3) (fun j hj=>(i5 j hj).elim (fun q=>⟨(hd j q).1,(hd j q).2.1,(hd j q).2.2.1,(hd j q).2.2.2⟩) fun q=>⟨fun z=>by have:=hlxl j z; omega,fun z=>by have:=hxl j z; omega,by omega,by omega⟩) (hst1.len.trans hol) (by omega) i2 i3
  rw [hl1]
  refine ⟨ny',H',fun j10 j20 j23 => ?_,k2,k3,o2.then k4 fun j hj => ?_,fun j hj=>(k5 j hj).elim (fun q=>(i5 j q).imp id fun q=>by omega) fun q => .inr (by have:=o2.nx; omega)⟩
  ·have hyl:=b2.rw.len1
   rw [ints_len,nats_len] at hyl
   rw [show (((0:Nat):Int))=0 from rfl] at i1
   rw [ql_graph_far1]
   simp (disch:=(first | assumption | omega | (simp only [k_d,k_c,simprocAttr] <;> fail) | (simp only [k_c]; omega) | (simp only [k_d,k_c,simprocAttr, *] <;> fail) | fail)) only [bl_graph_far1,lt_t h1,q1,q2,hg2',b1,hyl,i1,es,k1,k_a,k_b,k_s,k_x,simprocAttr]
  ·rcases List.mem_cons.1 hj with rfl | hj
   ·exact .inl (.head _)
   ·exact (i5 j hj).imp (fun q => .tail _ q) fun q=>by omega
theorem far_loop {N:Nat} {E:List Ed} {x:AV} {g A:Nat} (hE:GoodE N E) (hA:A∉rid x∧A≠g):∀ (f:Nat) (l out:List Nat) (steps:Nat) (lx:AV) (H:Hp),0 < steps→steps + f≤100→out.length=N→l.length≤100→(l=[]∨zeros out < f)→Rw H 1 lx (ints (nats l))→A∉rid lx→RL H 2 x (edg E)→Cs H g [.int .i64 N,x] 206 0→Cs H A (ints (nats out)) 3 0→
  ∃ H',(∀ k:K.Fn 1,l_graph_far JN GO cK k (.ptr g 0) (.slice A 0 N N true 1) lx (.int .i64 steps) H=k (.slice A 0 N N true 1) H')∧Cs H' A (ints (nats (farL (fun n=>bes E n false) f l out steps))) 3 0∧Out [A] H H':=by
 have hnil:∀ (out:List Nat) (steps:Nat) (lx:AV) (H:Hp),Rw H 1 lx (ints (nats []))→∀ k:K.Fn 1,l_graph_far JN GO cK k (.ptr g 0) (.slice A 0 N N true 1) lx (.int .i64 steps) H=k (.slice A 0 N N true 1) H:=by
  intro out steps lx H hlx k
  have hl:=hlx.len1
  have hl':lenx lx=some (.int .i64 0):=hl
  rw [ql_graph_far]
  simp only [bl_graph_far,hl',k_s,k_x,simprocAttr]
 intro f
 induction f with
 | zero=>
  intro l out steps lx H hs hsb hol hll hz hlx hAl hx hg hC
  obtain rfl:=hz.resolve_right (by omega)
  exact ⟨H,hnil out steps lx H hlx,hC,Out.refl _ _⟩
 | succ f ih=>
  intro l out steps lx H hs hsb hol hll hz hlx hAl hx hg hC
  by_cases hl0:l=[]
  ·subst hl0
   refine ⟨H,hnil out steps lx H hlx,?_,Out.refl _ _⟩
   unfold farL
   rw [if_pos rfl]; exact hC
  ·have hlp:0 < l.length:=List.length_pos_iff.2 hl0
   have S:=lev_step (sc:=fun n=>bes E n false) hs l (out,[])
   have hz0:=S.zer
   simp only [List.length_nil,Nat.add_zero] at hz0
   have hzN:zeros out≤N:=by unfold zeros; rw [← hol]; exact List.countP_le_length
   have hN:=hE.n
   obtain ⟨ny,H1,i1,i2,i3,i4,i5⟩:=far1_loop hE hs hll ⟨hAl,hA.1,hA.2⟩ l 0 H out [] .slice0 (Nat.zero_le _) List.drop_zero hlx hx hg (fun j hj=>by cases hj) hol (by simp; omega) hC .nil
   have o1:Out [A] H H1:=i4.mono fun j hj=>by
    rcases List.mem_cons.1 hj with rfl | hj
    ·exact .head _
    ·cases hj
   have hnr:∀ j∈rid ny,H.next≤j:=fun j hj=>(i5 j hj).elim (fun q=>by cases q) id
   obtain ⟨H',k1,k2,k3⟩:=ih _ _ (steps + 1) ny H1 (by omega) (by omega) (S.len.trans hol) (by omega) (by
    have:=hz.resolve_left hl0
    cases hx':(lev (fun n=>bes E n false) steps l (out,[])).2 with
    | nil=>exact .inl rfl
    | cons p q=>rw [hx'] at hz0; simp only [List.length_cons] at hz0; exact .inr (by omega)) i3.rw (fun q=>by have:=hnr A q; have:=hC.1; omega) (hx.out o1 fun j hj=>by rw [List.mem_singleton]; intro e; subst e; exact hA.1 hj) (hg.out o1 (by rw [List.mem_singleton]; exact fun e=>hA.2 e.symm)) i2
   refine ⟨H',fun k => ?_,?_,o1.trans k3⟩
   ·have hl:=hlx.len1
    rw [ints_len,nats_len] at hl
    have d:decide ((0:Int) < ((l.length:Nat):Int))=true:=decide_eq_true (by omega)
    have e:IntKind.wrap .i64 ((steps:Int) + 1)=((steps + 1:Nat):Int):=by rw [wrap_i64 (by omega) (by omega)]; rfl
    rw [show (((0:Nat):Int))=0 from rfl] at i1
    rw [ql_graph_far]
    simp only [bl_graph_far,hl,d,i1,e,k1,k_s,k_x,simprocAttr]
   ·unfold farL
    rw [if_neg hl0]; exact k2
theorem far_c {N:Nat} {E:List Ed} {x:AV} {H:Hp} {n:Nat} (hE:GoodE N E) (hx:RL H 2 x (edg E)):∃ A H',cK (.func (.func 161) [] []) [gv N x,.int .i64 n] H=some (.slice A 0 N N true 1,H')∧Cs H' A (ints (nats (far (fun n=>bes E n false) N n))) 3 0∧Out [] H H'∧H.next≤A:=by
 have hx1:=hx.one
 have hN:=hE.n
 have ho1:=al_out H [.int .i64 N,x] 206 0
 have hm:=mks_ok (H:=al H [.int .i64 N,x] 206 0) (z := .int .i64 0) (el:=3) (n:=N) .i64 .i64 (by omega)
 have hrep:List.replicate N (AV.int .i64 0)=ints (nats (List.replicate N 0)):=by simp [ints,nats]
 rw [al_nx,hrep] at hm
 have ho2:=ho1.al (ints (nats (List.replicate N 0))) 3 0
 have c2:=al_cs (al H [.int .i64 N,x] 206 0) (ints (nats (List.replicate N 0))) 3 0
 have c1:=(al_cs H [.int .i64 N,x] 206 0).out (al_out (al H [.int .i64 N,x] 206 0) (ints (nats (List.replicate N 0))) 3 0) (by simp)
 have o3:=al_out (al (al H [.int .i64 N,x] 206 0) (ints (nats (List.replicate N 0))) 3 0) [.int .i64 (n:Int)] 3 0
 have ho3:=ho2.trans o3
 have c3:=al_cs (al (al H [.int .i64 N,x] 206 0) (ints (nats (List.replicate N 0))) 3 0) [.int .i64 (n:Int)] 3 0
 have hr3:Rw (al (al (al H [.int .i64 N,x] 206 0) (ints (nats (List.replicate N 0))) 3 0) [.int .i64 (n:Int)] 3 0) 1 (.slice (H.next + 2) 0 1 1 true 1) (ints (nats [n])) := .mk c3.ro rfl (Nat.le_refl _) rfl
 have hxl:=hx.1.lt
 obtain ⟨H',i1,i2,i3⟩:=far_loop (g:=H.next) (A:=H.next + 1) hE ⟨fun q=>by have:=hxl _ q; omega,by omega⟩ (N + 1) [n] (List.replicate N 0) 1 (.slice (H.next + 2) 0 1 1 true 1) _ (by decide) (by omega) (by simp) (by simp) (.inr (by rw [zeros_rep]; omega)) hr3 (by rw [rid_s (by rfl),List.mem_singleton]; omega) (hx.out0 ho3) (c1.out o3 (by simp)) (c2.out o3 (by simp))
 refine ⟨H.next + 1,H',c_graph_far ?_,i2,ho3.then i3 fun j hj=>by rw [List.mem_singleton] at hj; exact .inr (by omega),by omega⟩
 rw [show (((1:Nat):Int))=1 from rfl] at i1
 unfold s_graph_far
 simp (disch:=(first | assumption | omega | (simp only [k_d,k_c,simprocAttr] <;> fail) | (simp only [k_c]; omega) | (simp only [k_d,k_c,simprocAttr, *] <;> fail) | fail)) only [hm,i1,k_a,k_b,k_s,k_x,simprocAttr]
abbrev fa' (E:List Ed) (N n:Nat):List Nat:=far (fun n=>bes E n false) N n
theorem farL_le {sc:Nat→List Nat} {B:Nat}:∀ (f:Nat) (l out:List Nat) (steps:Nat),steps + f≤B→(∀ v∈out,v≤B)→∀ v∈farL sc f l out steps,v≤B:=by
 have h1:∀ (steps b:Nat) (s:List Nat × List Nat),steps≤B→(∀ v∈s.1,v≤B)→∀ v∈(exp1 steps s b).1,v≤B:=by
  intro steps b s hs h v hv
  unfold exp1 at hv
  split at hv
  ·rcases List.mem_or_eq_of_mem_set hv with hv | rfl
   ·exact h v hv
   ·exact hs
  ·exact h v hv
 have h2:∀ (steps:Nat) (bs:List Nat) (s:List Nat × List Nat),steps≤B→(∀ v∈s.1,v≤B)→∀ v∈(expd steps bs s).1,v≤B:=by
  intro steps bs
  induction bs with
  | nil=>intro s hs h; exact h
  | cons b bs ih=>intro s hs h; exact ih _ hs (h1 steps b s hs h)
 have h3:∀ (steps:Nat) (l:List Nat) (s:List Nat × List Nat),steps≤B→(∀ v∈s.1,v≤B)→∀ v∈(lev sc steps l s).1,v≤B:=by
  intro steps l
  induction l with
  | nil=>intro s hs h; exact h
  | cons b bs ih=>intro s hs h; exact ih _ hs (h2 steps _ s hs h)
 intro f
 induction f with
 | zero=>intro l out steps hs h; exact h
 | succ f ih=>
  intro l out steps hs h
  unfold farL
  split
  ·exact h
  ·exact ih _ _ _ (by omega) (h3 steps l _ (by omega) h)
theorem far_le {E:List Ed} {N n:Nat} (hN:N≤16):∀ v∈fa' E N n,v≤100:=by
 refine farL_le _ _ _ _ (by omega) ?_
 intro v hv
 rw [List.eq_of_mem_replicate hv]; omega
theorem fa_len {N n:Nat} {E:List Ed} (hE:GoodE N E):(fa' E N n).length=N:=
 (far_end (C:=fun _=>True) (fun a b hb=>(hE.lt _ (mem_bes.1.1 hb)).2.1) (fun _ _=>trivial) (fun _ _ _ _=>trivial)).1
def selfD (E:List Ed) (N n:Nat):Nat:=(fa' E N n).getD n 0
theorem fa_at {N n m:Nat} {E:List Ed} (hE:GoodE N E) (hm:m < N):(fa' E N n)[m]? = some ((fa' E N n).getD m 0):=by
 rw [List.getD_eq_getElem?_getD,List.getElem?_eq_getElem (by rw [fa_len hE]; exact hm)]; rfl
theorem far_at {N n m:Nat} {E:List Ed} {H':Hp} {A:Nat} (hE:GoodE N E) (hm:m < N) (hC:Cs H' A (ints (nats (fa' E N n))) 3 0):ia 1 (.slice A 0 N N true 1) (.int .i64 (m:Int))=some (.ptr A m)∧cellAt H' A m=some (.int .i64 (((fa' E N n).getD m 0:Nat):Int)):=
 ⟨by rw [ia_s hm]; simp,hC.cellAt (nats_get (fa_at hE hm))⟩
theorem getD_le {N n m:Nat} {E:List Ed} (hE:GoodE N E) (hm:m < N):(fa' E N n).getD m 0≤100:=far_le hE.n _ (List.mem_of_getElem? (fa_at hE hm))
theorem cyc_loop {N:Nat} {E:List Ed} {x:AV} {g:Nat} (hE:GoodE N E):∀ (m i st sp:Nat) (H:Hp),i + m=N→st < N + 1→(0 < sp→st < N)→sp≤100→(sp=0 ↔ ∀ n,n < i→selfD E N n=0)→RL H 2 x (edg E)→Cs H g [.int .i64 N,x] 206 0→
  ∃ st' sp' H',(∀ k:K.Fn 3,l_graph_Cycle JN GO cK k (.ptr g 0) (.int .i64 st) (.int .i64 sp) (.int .i64 N) (.int .i64 i) H=k (.ptr g 0) (.int .i64 (st':Nat)) (.int .i64 (sp':Nat)) H')∧(0 < sp'→st' < N)∧sp'≤100∧(sp'=0 ↔ ∀ n,n < N→selfD E N n=0)∧Out [] H H':=by
 intro m
 induction m with
 | zero=>
  intro i st sp H hi hst hst2 hsp hiff hx hg
  obtain rfl:i=N:=by omega
  refine ⟨st,sp,H,fun k => ?_,hst2,hsp,hiff,Out.refl _ _⟩
  rw [ql_graph_Cycle]
  simp only [bl_graph_Cycle,lt_f,k_s,k_x,simprocAttr]
 | succ m ih=>
  intro i st sp H hi hst hst2 hsp hiff hx hg
  have hx1:=hx.one
  have hN:=hE.n
  have hiN:i < N:=by omega
  have hg2:cellsAt H g 0 2=some [.int .i64 N,x]:=hg.cellsAt 2 0 (by simp)
  obtain ⟨A,H1,f1,f2,f3,f4⟩:=far_c (n:=i) hE hx
  obtain ⟨a1,a2⟩:=far_at hE hiN f2
  have hle:=getD_le (n:=i) hE hiN
  have hd:(fa' E N i).getD i 0=selfD E N i:=rfl
  rw [hd] at a2 hle
  have es:IntKind.wrap .i64 ((i:Int) + 1)=((i + 1:Nat):Int):=by rw [wrap_i64 (by omega) (by omega)]; rfl
  have hlt:decide (((i:Nat):Int) < ((N:Nat):Int))=true:=decide_eq_true (by omega)
  by_cases hk:0 < selfD E N i
  ·have dk:decide ((0:Int) < ((selfD E N i:Nat):Int))=true:=decide_eq_true (by omega)
   by_cases h0:sp=0
   ·obtain ⟨st',sp',H',i1,i2,i3,i4,i5⟩:=ih (i + 1) i (selfD E N i) H1 (by omega) (by omega) (fun _=>hiN) hle ⟨fun q=>by omega,fun q=>by have:=q i (by omega); omega⟩ (hx.out0 f3) (hg.out f3 (by simp))
    refine ⟨st',sp',H',fun k => ?_,i2,i3,i4,f3.trans i5⟩
    subst h0
    rw [ql_graph_Cycle]
    simp (disch:=(first | assumption | omega | (simp only [k_d,k_c,simprocAttr] <;> fail) | (simp only [k_c]; omega) | (simp only [k_d,k_c,simprocAttr, *] <;> fail) | fail)) only [bl_graph_Cycle,hlt,hg2,f1,a1,a2,dk,Int.natCast_zero,es,i1,k_a,k_b,k_s,k_x,simprocAttr]
   ·have e0:((sp:Int) == 0)=false:=beq_false_of_ne (by omega)
    by_cases h1:selfD E N i < sp
    ·have dl:decide (((selfD E N i:Nat):Int) < ((sp:Nat):Int))=true:=decide_eq_true (by omega)
     obtain ⟨st',sp',H',i1,i2,i3,i4,i5⟩:=ih (i + 1) i (selfD E N i) H1 (by omega) (by omega) (fun _=>hiN) hle ⟨fun q=>by omega,fun q=>by have:=q i (by omega); omega⟩ (hx.out0 f3) (hg.out f3 (by simp))
     refine ⟨st',sp',H',fun k => ?_,i2,i3,i4,f3.trans i5⟩
     rw [ql_graph_Cycle]
     simp (disch:=(first | assumption | omega | (simp only [k_d,k_c,simprocAttr] <;> fail) | (simp only [k_c]; omega) | (simp only [k_d,k_c,simprocAttr, *] <;> fail) | fail)) only [bl_graph_Cycle,hlt,hg2,f1,a1,a2,dk,e0,dl,es,i1,k_a,k_b,k_s,k_x,simprocAttr]
    ·have dl:decide (((selfD E N i:Nat):Int) < ((sp:Nat):Int))=false:=decide_eq_false (by omega)
     obtain ⟨st',sp',H',i1,i2,i3,i4,i5⟩:=ih (i + 1) st sp H1 (by omega) hst hst2 hsp ⟨fun q=>by omega,fun q=>by have:=q i (by omega); omega⟩ (hx.out0 f3) (hg.out f3 (by simp))
     refine ⟨st',sp',H',fun k => ?_,i2,i3,i4,f3.trans i5⟩
     rw [ql_graph_Cycle]
     simp (disch:=(first | assumption | omega | (simp only [k_d,k_c,simprocAttr] <;> fail) | (simp only [k_c]; omega) | (simp only [k_d,k_c,simprocAttr, *] <;> fail) | fail)) only [bl_graph_Cycle,hlt,hg2,f1,a1,a2,dk,e0,dl,es,i1,k_a,k_b,k_s,k_x,simprocAttr]
  ·have hk0:selfD E N i=0:=by omega
   have dk:decide ((0:Int) < ((selfD E N i:Nat):Int))=false:=decide_eq_false (by omega)
   obtain ⟨st',sp',H',i1,i2,i3,i4,i5⟩:=ih (i + 1) st sp H1 (by omega) hst hst2 hsp (hiff.trans ⟨fun q n hn=>by
    by_cases hni:n=i
    ·subst hni; exact hk0
    ·exact q n (by omega),fun q n hn=>q n (by omega)⟩) (hx.out0 f3) (hg.out f3 (by simp))
   refine ⟨st',sp',H',fun k => ?_,i2,i3,i4,f3.trans i5⟩
   rw [ql_graph_Cycle]
   simp (disch:=(first | assumption | omega | (simp only [k_d,k_c,simprocAttr] <;> fail) | (simp only [k_c]; omega) | (simp only [k_d,k_c,simprocAttr, *] <;> fail) | fail)) only [bl_graph_Cycle,hlt,hg2,f1,a1,a2,dk,es,i1,k_a,k_b,k_s,k_x,simprocAttr]
theorem cyc2_loop {N:Nat} {E:List Ed} {x:AV} {g st left:Nat} {bl:List Nat} (hE:GoodE N E) (hst:st < N) (hbl:∀ b∈bl,b < N) (hbn:bl.length≤300):∀ (r:List Nat) (i:Nat) (bx y:AV) (out:List Nat) (H:Hp),i≤bl.length→bl.drop i=r→Rw H 1 bx (ints (nats bl))→RL H 2 x (edg E)→Cs H g [.int .i64 N,x] 206 0→Ow H 3 1 y (ints (nats out))→out.length≤10000→
  ∃ y' out' H',(∀ (j97:K.Fn 1) (j106 j124:K.Fn 4),l_graph_Cycle2 JN GO cK j97 j106 j124 (.ptr g 0) (.int .i64 st) y (.int .i64 left) bx (.int .i64 (bl.length:Nat)) (.int .i64 (i:Nat)) H=j124 (.ptr g 0) (.int .i64 st) y' (.int .i64 left) H')∧Ow H' 3 1 y' (ints (nats out'))∧(out'=out∨∃ b,b < N∧out'=out++[b])∧Out (rid y) H H'∧∀ j∈rid y',j∈rid y∨H.next≤j
 | [],i,bx,y,out,H,hi,h,hb,hx,hg,hO,hol=>by
  obtain rfl:=drop_nil hi h
  refine ⟨y,out,H,fun j97 j106 j124 => ?_,hO,.inl rfl,Out.refl _ _,fun j hj => .inl hj⟩
  rw [ql_graph_Cycle2]
  simp only [bl_graph_Cycle2,lt_f,k_s,k_x,simprocAttr]
 | b::r,i,bx,y,out,H,hi,h,hb,hx,hg,hO,hol=>by
  obtain ⟨h1,h2,h3⟩:=hd_drop h
  obtain ⟨q,q1,q2⟩:=hb.ia1 (nats_get h2) .i64
  have hbN:=hbl b (List.mem_of_getElem? h2)
  have es:=wrap_s h1 (by omega)
  have hx1:=hx.one
  have hg2:cellsAt H g 0 2=some [.int .i64 N,x]:=hg.cellsAt 2 0 (by simp)
  by_cases hbs:b=st
  ·have d:(((b:Nat):Int) != ((st:Nat):Int))=false:=by subst hbs; simp
   obtain ⟨y',out',H',i1,i2⟩:=cyc2_loop (left:=left) hE hst hbl hbn r (i + 1) bx y out H h1 h3 hb hx hg hO hol
   refine ⟨y',out',H',fun j97 j106 j124 => ?_,i2⟩
   rw [ql_graph_Cycle2]
   simp (disch:=(first | assumption | omega | (simp only [k_d,k_c,simprocAttr] <;> fail) | (simp only [k_c]; omega) | (simp only [k_d,k_c,simprocAttr, *] <;> fail) | fail)) only [bl_graph_Cycle2,lt_t h1,q1,q2,d,es,i1,k_a,k_b,k_s,k_x,simprocAttr]
  ·have d:(((b:Nat):Int) != ((st:Nat):Int))=true:=by simp; omega
   obtain ⟨A,H1,f1,f2,f3,f4⟩:=far_c (n:=b) hE hx
   obtain ⟨a1,a2⟩:=far_at hE hst f2
   by_cases hl:(fa' E N b).getD st 0=left
   ·have d2:((((fa' E N b).getD st 0:Nat):Int) == ((left:Nat):Int))=true:=by rw [hl]; simp
    obtain ⟨y1,H2,p1,p2,p3,p4,p5⟩:=push_ok (el2:=3) (z:=[(.int .i64 0)]) (vs:=[.int .i64 (b:Int)]) (hO.out f3 (by simp)) rfl rfl (by decide) (by rw [ints_len,nats_len]; simp; omega)
    have hp2:ints (nats out)++[.int .i64 (b:Int)]=ints (nats (out++[b])):=by rw [nats_app,ints_app]; rfl
    rw [hp2] at p2
    have hn1:=f3.nx
    refine ⟨y1,out++[b],H2,fun j97 j106 j124 => ?_,p2,.inr ⟨b,hbN,rfl⟩,(f3.mono fun j hj=>by cases hj).trans p3,fun j hj=>(p4 j hj).imp id fun q=>by omega⟩
    have p1':=p1 _ rfl
    rw [ql_graph_Cycle2]
    simp (disch:=(first | assumption | omega | (simp only [k_d,k_c,simprocAttr] <;> fail) | (simp only [k_c]; omega) | (simp only [k_d,k_c,simprocAttr, *] <;> fail) | fail)) only [bl_graph_Cycle2,lt_t h1,q1,q2,d,hg2,f1,a1,a2,d2,p1',k_a,k_b,k_s,k_x,simprocAttr]
   ·have d2:((((fa' E N b).getD st 0:Nat):Int) == ((left:Nat):Int))=false:=beq_false_of_ne (by omega)
    obtain ⟨y',out',H',i1,i2,i3,i4,i5⟩:=cyc2_loop (left:=left) hE hst hbl hbn r (i + 1) bx y out H1 h1 h3 (hb.out0 f3) (hx.out0 f3) (hg.out f3 (by simp)) (hO.out f3 (by simp)) hol
    have hn1:=f3.nx
    refine ⟨y',out',H',fun j97 j106 j124 => ?_,i2,i3,(f3.mono fun j hj=>by cases hj).trans i4,fun j hj=>(i5 j hj).imp id fun q=>by omega⟩
    rw [ql_graph_Cycle2]
    simp (disch:=(first | assumption | omega | (simp only [k_d,k_c,simprocAttr] <;> fail) | (simp only [k_c]; omega) | (simp only [k_d,k_c,simprocAttr, *] <;> fail) | fail)) only [bl_graph_Cycle2,lt_t h1,q1,q2,d,hg2,f1,a1,a2,d2,es,i1,k_a,k_b,k_s,k_x,simprocAttr]
theorem cyc1_loop {N:Nat} {E:List Ed} {x:AV} {g st:Nat} (hE:GoodE N E) (hst:st < N):∀ (left:Nat) (y:AV) (out:List Nat) (H:Hp),out≠[]→(∀ b∈out,b < N)→out.length + left≤1000→RL H 2 x (edg E)→Cs H g [.int .i64 N,x] 206 0→Ow H 3 1 y (ints (nats out))→(∀ j∈rid y,j∉rid x∧j≠g)→
  ∃ y' out' H',(∀ k:K.Fn 1,l_graph_Cycle1 JN GO cK k (.ptr g 0) (.int .i64 st) y (.int .i64 left) H=k y' H')∧Ow H' 3 1 y' (ints (nats out'))∧out'≠[]∧Out (rid y) H H':=by
 intro left
 induction left with
 | zero=>
  intro y out H h0 hlt hn hx hg hO hd
  refine ⟨y,out,H,fun k => ?_,hO,h0,Out.refl _ _⟩
  have d:decide ((0:Int) < ((0:Nat):Int))=false:=rfl
  rw [ql_graph_Cycle1]
  simp only [bl_graph_Cycle1,d,k_s,k_x,simprocAttr]
 | succ left ih=>
  intro y out H h0 hlt hn hx hg hO hd
  have hop:0 < out.length:=List.length_pos_iff.2 h0
  have hx1:=hx.one
  have hg2:cellsAt H g 0 2=some [.int .i64 N,x]:=hg.cellsAt 2 0 (by simp)
  have hyl:=hO.rw.len1
  rw [ints_len,nats_len] at hyl
  obtain ⟨a,ha⟩:∃ a,out[out.length - 1]? = some a:=⟨_,List.getElem?_eq_getElem (by omega)⟩
  obtain ⟨q,q1,q2⟩:=hO.rw.ia1 (nats_get ha) .i64
  have hEl:=hE.len
  have hbl:∀ b∈bes E a false,b < N:=fun b hb=>(hE.lt _ (mem_bes.1.1 hb)).2.1
  have hbn:=bes_len E a false
  obtain ⟨bx,H1,b1,b2,b3,b4⟩:=behind_c a hE hx
  have hbl2:=b2.rw.len1
  rw [ints_len,nats_len] at hbl2
  have hyr:=hO.rw.lt
  obtain ⟨y1,out1,H2,i1,i2,i3,i4,i5⟩:=cyc2_loop (left:=left + 1) hE hst hbl (by omega) (bes E a false) 0 bx y out H1 (Nat.zero_le _) List.drop_zero b2.rw (hx.out0 b3) (hg.out b3 (by simp)) (hO.out b3 (by simp)) (by omega)
  have hn1:=b3.nx
  have o2:Out (rid y) H H2:=(b3.mono fun j hj=>by cases hj).trans i4
  have hxl:=hx.1.lt
  have hgl:=hg.1
  have hr1:∀ j∈rid y1,j∈rid y∨H.next≤j:=fun j hj=>(i5 j hj).imp id fun q=>by omega
  have hprop:out1≠[]∧(∀ b∈out1,b < N)∧out1.length≤out.length + 1:=by
   rcases i3 with rfl | ⟨b,hb,rfl⟩
   ·exact ⟨h0,hlt,by omega⟩
   ·refine ⟨by simp,fun c hc => ?_,by simp⟩
    rcases List.mem_append.1 hc with hc | hc
    ·exact hlt c hc
    ·rw [List.mem_singleton] at hc; subst hc; exact hb
  obtain ⟨y',out',H',k1,k2,k3,k4⟩:=ih y1 out1 H2 hprop.1 hprop.2.1 (by have:=hprop.2.2; omega) (hx.out o2 fun j hj q=>(hd j q).1 hj) (hg.out o2 fun q=>(hd g q).2 rfl) i2 (fun j hj=>(hr1 j hj).elim (hd j) fun q=>⟨fun z=>by have:=hxl j z; omega,by omega⟩)
  refine ⟨y',out',H',fun k => ?_,k2,k3,o2.then k4 hr1⟩
  have d:decide ((0:Int) < ((left + 1:Nat):Int))=true:=decide_eq_true (by omega)
  have e1:IntKind.wrap .i64 (((out.length:Nat):Int) - 1)=((out.length - 1:Nat):Int):=by rw [wrap_i64 (by omega) (by omega)]; omega
  have e2:IntKind.wrap .i64 (((left + 1:Nat):Int) - 1)=((left:Nat):Int):=by rw [wrap_i64 (by omega) (by omega)]; omega
  rw [show (((0:Nat):Int))=0 from rfl] at i1
  rw [ql_graph_Cycle1]
  simp (disch:=(first | assumption | omega | (simp only [k_d,k_c,simprocAttr] <;> fail) | (simp only [k_c]; omega) | (simp only [k_d,k_c,simprocAttr, *] <;> fail) | fail)) only [bl_graph_Cycle1,d,hg2,hyl,e1,q1,q2,b1,hbl2,i1,e2,k1,k_a,k_b,k_s,k_x,simprocAttr]
def noCyc (N:Nat) (E:List Ed):Prop:=∀ n,n < N→selfD E N n=0
theorem cycle_c {N:Nat} {E:List Ed} {x:AV} {H:Hp} (hE:GoodE N E) (hx:RL H 2 x (edg E)):∃ (y:AV) (k:Nat) (H':Hp),cK (.func (.func 131) [] []) [gv N x] H=some (y,H')∧lenx y=some (.int .i64 k)∧(k=0 ↔ noCyc N E)∧Out [] H H':=by
 have hx1:=hx.one
 have hN:=hE.n
 have ho1:=al_out H [.int .i64 N,x] 206 0
 have c1:=al_cs H [.int .i64 N,x] 206 0
 obtain ⟨H2,g1,g2⟩:=good_c hE (hx.out0 ho1)
 have hn2:=g2.nx
 rw [al_nx] at hn2
 have ho2:=ho1.trans g2
 have c2:=c1.out g2 (by simp)
 obtain ⟨st,sp,H3,i1,i2,i3,i4,i5⟩:=cyc_loop (g:=H.next) hE N 0 0 0 H2 (by omega) (by omega) (by omega) (by omega) ⟨fun _ n hn=>by omega,fun _=>rfl⟩ (hx.out0 ho2) c2
 rw [show (((0:Nat):Int))=0 from rfl] at i1
 have hc0:cellAt H2 H.next 0=some (.int .i64 N):=c2.cellAt rfl
 have ho3:=ho2.trans i5
 have c3:=c2.out i5 (by simp)
 have hn3:=i5.nx
 by_cases h0:sp=0
 ·refine ⟨.slice0,0,H3,c_graph_Cycle ?_,rfl,⟨fun _=>i4.1 h0,fun _=>rfl⟩,ho3⟩
  subst h0
  unfold s_graph_Cycle
  simp (disch:=(first | assumption | omega | (simp only [k_d,k_c,simprocAttr] <;> fail) | (simp only [k_c]; omega) | (simp only [k_d,k_c,simprocAttr, *] <;> fail) | fail)) only [g1,hc0,i1,Int.natCast_zero,k_a,k_b,k_s,k_x,simprocAttr]
 ·have hstN:=i2 (by omega)
  have c4:=al_cs H3 [.int .i64 (st:Int)] 3 0
  have o4:=al_out H3 [.int .i64 (st:Int)] 3 0
  have hO:Ow (al H3 [.int .i64 (st:Int)] 3 0) 3 1 (.slice H3.next 0 1 1 true 1) (ints (nats [st])):=c4.ow (by decide) rfl (by intro v hv; rw [List.mem_singleton] at hv; subst hv; rfl) true
  have hxl:=hx.1.lt
  obtain ⟨y,out,H5,k1,k2,k3,k4⟩:=cyc1_loop (g:=H.next) hE hstN (sp - 1) _ [st] _ (by simp) (by intro b hb; rw [List.mem_singleton] at hb; subst hb; exact hstN) (by simp; omega) (hx.out0 (ho3.trans o4)) (c3.out o4 (by simp)) hO (fun j hj=>by
   rw [rid_s (by rfl),List.mem_singleton] at hj
   exact ⟨fun q=>by have:=hxl j q; omega,by omega⟩)
  have hyl:=k2.rw.len1
  rw [ints_len,nats_len] at hyl
  have hop:0 < out.length:=List.length_pos_iff.2 k3
  refine ⟨y,out.length,H5,c_graph_Cycle ?_,hyl,⟨fun q=>by omega,fun q=>absurd (i4.2 q) h0⟩,(ho3.trans o4).then k4 fun j hj => ?_⟩
  ·have d:(((sp:Nat):Int) == 0)=false:=beq_false_of_ne (by omega)
   have e:IntKind.wrap .i64 (((sp:Nat):Int) - 1)=((sp - 1:Nat):Int):=by rw [wrap_i64 (by omega) (by omega)]; omega
   unfold s_graph_Cycle
   simp (disch:=(first | assumption | omega | (simp only [k_d,k_c,simprocAttr] <;> fail) | (simp only [k_c]; omega) | (simp only [k_d,k_c,simprocAttr, *] <;> fail) | fail)) only [g1,hc0,i1,d,e,k1,k_a,k_b,k_s,k_x,simprocAttr]
  ·rw [rid_s (by rfl),List.mem_singleton] at hj; exact .inr (by omega)
abbrev alN:Str:=[97,98,99,100,101,102,103,104,105,106,107,108,109,110,111,112,113,114,115,116,117,118,119,120,121,122,48,49,50,51,52,53,54,55,56,57]
noncomputable def okN (s:Str):Bool := !(s == []) && (decide ((s.length:Int)≤16) && (trimN s alN == []))
theorem name_c (s:Str) (H:Hp):cK (.func (.func 60) [] []) [.str s] H=some (.bool (okN s),H):=by
 refine c_def_Name ?_
 unfold s_def_Name okN
 cases h0:(s == []) with
 | true=>simp only [h0,Bool.not_true,Bool.false_and,k_s,k_x,simprocAttr]
 | false=>
  by_cases h1:(s.length:Int)≤16
  ·have ht:=trim_c s alN H (by omega) (by decide) (by decide)
   simp only [h0,h1,ht,Bool.true_and,k_s,k_x,simprocAttr]
  ·simp only [h0,h1,Bool.true_and,Bool.false_and,k_s,k_x,simprocAttr]
noncomputable def numM (s:Str):Option Nat:=if s.length≤4 then (match Lib.atoiAll (u8of s) with | .ok v=>if dec v=s∧0≤v then some v.toNat else none | _=>none) else none
theorem ifn_f (T:Nat) (v:AV) (H:Hp):gA P .eql 188 true (.iface T v) .nilIface=true∧binA P .eql 188 (.iface T v) .nilIface H=some (.bool false):=by
 have hu:∃ m,P.underlying 188=some (.interface m):=⟨_,Tryz.underlying188⟩
 obtain ⟨m,hu⟩:=hu
 refine ⟨rfl,?_⟩
 unfold binA eqA
 simp only [hu]; rfl
theorem ifn_t (H:Hp):gA P .eql 188 true .nilIface .nilIface=true∧binA P .eql 188 .nilIface .nilIface H=some (.bool true):=by
 have hu:∃ m,P.underlying 188=some (.interface m):=⟨_,Tryz.underlying188⟩
 obtain ⟨m,hu⟩:=hu
 refine ⟨rfl,?_⟩
 unfold binA eqA
 simp only [hu]; rfl
theorem atoi_bnd {s:Str} (hs:s.length≤4) {v:Int} (h:Lib.atoiAll (u8of s) = .ok v) : -9223372036854775808≤v∧v≤9223372036854775807:=by
 unfold Lib.atoiAll at h
 split at h
 ·cases h
 ·simp only at h
  split at h
  ·cases h
  ·cases h
  ·split at h
   ·cases h
   ·split at h
    ·cases h
    ·injection h with h
     rename_i h1 h2
     split at h <;> omega
theorem number_c {s:Str} {H:Hp} (hg:Gl H):∃ n ok H',cK (.func (.func 158) [] []) [.str s] H=some (.tuple [.int .i64 n,.bool ok],H')∧(numM s=if ok then some n.toNat else none)∧(ok=true→0≤n)∧Out [] H H':=by
 by_cases hl:s.length≤4
 ·have d:decide ((4:Int) < (s.length:Int))=false:=decide_eq_false (by omega)
  have ha:=atoi_c (s:=s) (by omega) hg
  have hnum:numM s=(match Lib.atoiAll (u8of s) with | .ok v=>if dec v=s∧0≤v then some v.toNat else none | _=>none):=by unfold numM; rw [if_pos hl]
  unfold atoiR at ha
  cases hr:Lib.atoiAll (u8of s) with
  | ok v=>
   rw [hr] at ha hnum
   obtain ⟨b1,b2⟩:=atoi_bnd hl hr
   obtain ⟨H',i1,i2⟩:=itoa_c b1 b2 hg
   have hn:=ifn_t H
   by_cases h1:dec v=s
   ·have e1:(dec v == s)=true:=by rw [h1]; simp
    refine ⟨v,decide (0≤v),H',c_def_number ?_,?_,fun q=>by simpa using q,i2⟩
    ·unfold s_def_number
     simp (disch:=(first | assumption | omega | (simp only [k_d,k_c,simprocAttr] <;> fail) | (simp only [k_c]; omega) | (simp only [k_d,k_c,simprocAttr, *] <;> fail) | fail)) only [d,ha,hn.1,hn.2,IFT_t,i1,e1,k_a,k_b,k_s,k_x,simprocAttr]
    ·rw [hnum]
     by_cases h0:0≤v <;> simp [h1,h0]
   ·have e1:(dec v == s)=false:=beq_false_of_ne h1
    refine ⟨v,false,H',c_def_number ?_,?_,(fun q=>by cases q),i2⟩
    ·unfold s_def_number
     simp (disch:=(first | assumption | omega | (simp only [k_d,k_c,simprocAttr] <;> fail) | (simp only [k_c]; omega) | (simp only [k_d,k_c,simprocAttr, *] <;> fail) | fail)) only [d,ha,hn.1,hn.2,IFT_t,i1,e1,k_a,k_b,k_s,k_x,simprocAttr]
    ·rw [hnum]; simp [h1]
  | range=>
   rw [hr] at ha hnum
   have hn:=ifn_f 274 .junk H
   refine ⟨Lib.atoiSat (u8of s),false,H,c_def_number ?_,by rw [hnum]; rfl,(fun q=>by cases q),Out.refl _ _⟩
   unfold s_def_number
   simp (disch:=(first | assumption | omega | (simp only [k_d,k_c,simprocAttr] <;> fail) | (simp only [k_c]; omega) | (simp only [k_d,k_c,simprocAttr, *] <;> fail) | fail)) only [d,ha,hn.1,hn.2,IFT_t,k_a,k_b,k_s,k_x,simprocAttr]
  | _=>
   rw [hr] at ha hnum
   have hn:=ifn_f 274 .junk H
   refine ⟨0,false,H,c_def_number ?_,by rw [hnum]; rfl,(fun q=>by cases q),Out.refl _ _⟩
   unfold s_def_number
   simp (disch:=(first | assumption | omega | (simp only [k_d,k_c,simprocAttr] <;> fail) | (simp only [k_c]; omega) | (simp only [k_d,k_c,simprocAttr, *] <;> fail) | fail)) only [d,ha,hn.1,hn.2,IFT_t,k_a,k_b,k_s,k_x,simprocAttr]
 ·have d:decide ((4:Int) < (s.length:Int))=true:=decide_eq_true (by omega)
  refine ⟨0,false,H,c_def_number ?_,by unfold numM; rw [if_neg hl]; rfl,(fun q=>by cases q),Out.refl _ _⟩
  unfold s_def_number
  simp (disch:=(first | assumption | omega | (simp only [k_d,k_c,simprocAttr] <;> fail) | (simp only [k_c]; omega) | (simp only [k_d,k_c,simprocAttr, *] <;> fail) | fail)) only [d,k_a,k_b,k_s,k_x,simprocAttr]
structure Tk where
 name:Str
 after:List Int
 retry:Int
 wait:Int
 base:Int
 on:Str
 deriving DecidableEq
def tkC (t:Tk) (x:AV):List AV:=[.str t.name,x,.int .i64 t.retry,.int .i64 t.wait,.int .i64 t.base,.str t.on]
def fpD (dx:AV) (xs:List AV):List Nat:=rid dx++xs.flatMap rid
structure RD (H:Hp) (dx:AV) (xs:List AV) (ts:List Tk):Prop where
 len:xs.length=ts.length
 row:RL H 6 dx (List.zipWith tkC ts xs)
 aft:∀ (i:Nat) (x:AV) (t:Tk),xs[i]? = some x→ts[i]? = some t→Rw H 1 x (ints t.after)
theorem RD.out {H H':Hp} {dx:AV} {xs:List AV} {ts:List Tk} {S:List Nat} (h:RD H dx xs ts) (k:Out S H H') (hs:∀ j∈fpD dx xs,j∉S):RD H' dx xs ts:=
 ⟨h.len,h.row.out k fun j hj=>hs j (List.mem_append_left _ hj),fun i x t hx ht=>(h.aft i x t hx ht).out k fun j hj=>hs j (List.mem_append_right _ (List.mem_flatMap.2 ⟨x,List.mem_of_getElem? hx,hj⟩))⟩
theorem RD.out0 {H H':Hp} {dx:AV} {xs:List AV} {ts:List Tk} (h:RD H dx xs ts) (k:Out [] H H'):RD H' dx xs ts:=h.out k fun _ _ q=>by cases q
theorem RD.lt {H:Hp} {dx:AV} {xs:List AV} {ts:List Tk} (h:RD H dx xs ts):∀ j∈fpD dx xs,j < H.next:=by
 intro j hj
 rcases List.mem_append.1 hj with hj | hj
 ·exact h.row.1.lt j hj
 ·obtain ⟨x,hx,hj⟩:=List.mem_flatMap.1 hj
  obtain ⟨i,hi⟩:=List.getElem?_of_mem hx
  have hit:i < ts.length:=by rw [← h.len]; exact (List.getElem?_eq_some_iff.1 hi).1
  exact (h.aft i x _ hi (List.getElem?_eq_getElem hit)).lt j hj
theorem RD.at {H:Hp} {dx:AV} {xs:List AV} {ts:List Tk} (h:RD H dx xs ts) {i:Nat} {t:Tk} (ht:ts[i]? = some t) :
  ∃ x b o,xs[i]? = some x∧oneC x=true∧Rw H 1 x (ints t.after)∧(∀ k,ia 6 dx (.int k i)=some (.ptr b o))∧b < H.next∧cellsAt H b o 6=some (tkC t x)∧cellAt H b o=some (.str t.name):=by
 have hi:=(List.getElem?_eq_some_iff.1 ht).1
 have hx:xs[i]? = some (xs[i]'(by rw [h.len]; exact hi)):=List.getElem?_eq_getElem _
 have hw:=h.aft i _ t hx ht
 have hz:(List.zipWith tkC ts xs)[i]? = some (tkC t (xs[i]'(by rw [h.len]; exact hi))):=by rw [List.getElem?_zipWith,ht,hx]
 obtain ⟨b,o,h1,h2,h3,h4,h5⟩:=h.row.at (by decide) hz
 exact ⟨_,b,o,hx,hw.one,hw,h1,h3,h4,by have:=h5 0 _ rfl; rw [Nat.add_zero] at this; exact this⟩
theorem RD.lenx {H:Hp} {dx:AV} {xs:List AV} {ts:List Tk} (h:RD H dx xs ts):lenx dx=some (.int .i64 (ts.length:Nat)):=by
 have:=h.row.len (by decide)
 rw [List.length_zipWith,h.len,Nat.min_self] at this
 exact this
abbrev dv (dx:AV):AV := .agg [dx]
noncomputable def odd1 (t:Tk):Bool := !okN t.name || (!(t.on == []) && !okN t.on)
def odd3 (t:Tk):Bool := !(decide (0≤t.retry) && decide (t.retry≤8)) || (!(decide (1≤t.wait) && decide (t.wait≤1000)) || !(decide (1≤t.base) && decide (t.base≤1000)))
theorem fd_tk (t:Tk) (x:AV):(tkC t x)[0]? = some (.str t.name)∧(tkC t x)[1]? = some x∧(tkC t x)[2]? = some (.int .i64 t.retry)∧(tkC t x)[3]? = some (.int .i64 t.wait)∧(tkC t x)[4]? = some (.int .i64 t.base)∧(tkC t x)[5]? = some (.str t.on):=⟨rfl,rfl,rfl,rfl,rfl,rfl⟩
theorem tk_len (t:Tk) (x:AV):(tkC t x).length=6:=rfl
theorem tk_take (t:Tk) (x:AV):(tkC t x).take 6=tkC t x:=rfl
theorem bx_tk (t:Tk) (x:AV) (H:Hp):bx 107 (.agg (tkC t x)) H=some (H.next,al H (tkC t x) 107 0):=bx_alA (by rw [tk_len]; omega)
theorem st_tk (t:Tk) (x:AV) (hx:oneC x=true) (H:Hp):st 6 (.ptr H.next 0) (.agg (tkC t x)) (al H [(.str []),.slice0,(.int .i64 0),(.int .i64 0),(.int .i64 0),(.str [])] 107 0)=some (al H (tkC t x) 107 0):=
 st_alN (by simp [tkC,oneC_s,oneC_i,hx]) rfl rfl (by decide) rfl
theorem good1_c (t:Tk) (x:AV) (i:Int) (H:Hp):∃ H',cK (.func (.func 125) [] []) [.int .i64 i,.agg (tkC t x)] H=some (.bool (odd1 t),H')∧Out [] H H':=by
 refine ⟨al H (tkC t x) 107 0,c_def_Good_1 ?_,al_out _ _ _ _⟩
 obtain ⟨e0,e1,e2,e3,e4,e5⟩:=fd_tk t x
 unfold s_def_Good_1 odd1
 cases h1:okN t.name with
 | false=>simp (disch:=(first | assumption | omega | (simp only [k_d,k_c,simprocAttr] <;> fail) | (simp only [k_c]; omega) | (simp only [k_d,k_c,simprocAttr, *] <;> fail) | fail)) only [bx_tk,e0,e5,name_c,h1,Bool.not_false,Bool.true_or,k_a,k_b,k_s,k_x,simprocAttr]
 | true=>
  cases h2:(t.on == []) with
  | true=>simp (disch:=(first | assumption | omega | (simp only [k_d,k_c,simprocAttr] <;> fail) | (simp only [k_c]; omega) | (simp only [k_d,k_c,simprocAttr, *] <;> fail) | fail)) only [bx_tk,e0,e5,name_c,h1,h2,Bool.not_true,Bool.false_or,Bool.false_and,k_a,k_b,k_s,k_x,simprocAttr]
  | false=>simp (disch:=(first | assumption | omega | (simp only [k_d,k_c,simprocAttr] <;> fail) | (simp only [k_c]; omega) | (simp only [k_d,k_c,simprocAttr, *] <;> fail) | fail)) only [bx_tk,e0,e5,name_c,h1,h2,Bool.not_true,Bool.not_false,Bool.false_or,Bool.true_and,k_a,k_b,k_s,k_x,simprocAttr]
theorem good3_c (t:Tk) (x:AV) (i:Int) (H:Hp):∃ H',cK (.func (.func 127) [] []) [.int .i64 i,.agg (tkC t x)] H=some (.bool (odd3 t),H')∧Out [] H H':=by
 refine ⟨al H (tkC t x) 107 0,c_def_Good_3 ?_,al_out _ _ _ _⟩
 obtain ⟨e0,e1,e2,e3,e4,e5⟩:=fd_tk t x
 unfold s_def_Good_3 odd3
 cases h1:(decide (0≤t.retry) && decide (t.retry≤8)) with
 | false=>simp (disch:=(first | assumption | omega | (simp only [k_d,k_c,simprocAttr] <;> fail) | (simp only [k_c]; omega) | (simp only [k_d,k_c,simprocAttr, *] <;> fail) | fail)) only [bx_tk,e2,e3,e4,din_c,h1,Bool.not_false,Bool.true_or,k_a,k_b,k_s,k_x,simprocAttr]
 | true=>
  cases h2:(decide (1≤t.wait) && decide (t.wait≤1000)) with
  | false=>simp (disch:=(first | assumption | omega | (simp only [k_d,k_c,simprocAttr] <;> fail) | (simp only [k_c]; omega) | (simp only [k_d,k_c,simprocAttr, *] <;> fail) | fail)) only [bx_tk,e2,e3,e4,din_c,h1,h2,Bool.not_true,Bool.not_false,Bool.false_or,Bool.true_or,k_a,k_b,k_s,k_x,simprocAttr]
  | true=>simp (disch:=(first | assumption | omega | (simp only [k_d,k_c,simprocAttr] <;> fail) | (simp only [k_c]; omega) | (simp only [k_d,k_c,simprocAttr, *] <;> fail) | fail)) only [bx_tk,e2,e3,e4,din_c,h1,h2,Bool.not_true,Bool.false_or,k_a,k_b,k_s,k_x,simprocAttr]
def aftG (n:Int) (i:Int) (pre:List Int):List Int→Bool
 | []=>true
 | a::l=>(decide (0≤a) && decide (a≤n - 1)) && (!(i == a) && (!(pre.any (fun b=>a == b)) && aftG n i (pre++[a]) l))
theorem after_loop {dx:AV} {n:Nat} {l:List Int} {lx:AV} {g:Nat} {i:Int} (hn:n≤100000) (hl:l.length≤100000) (hdx:lenx dx=some (.int .i64 n)):∀ (r:List Int) (k:Nat) (H:Hp) (j4:K.Fn 0),k≤l.length→l.drop k=r→Rw H 1 lx (ints l)→cellAt H g 0=some dx→
  l__def_Def_after JN GO cK j4 (.int .i64 i) lx (.ptr g 0) lx (.int .i64 (l.length:Nat)) (.int .i64 (k:Nat)) H=if aftG n i (l.take k) r then j4 H else some (.bool false,H)
 | [],k,H,j4,hk,h,hlx,hg=>by
  obtain rfl:=drop_nil hk h
  rw [ql__def_Def_after]
  simp only [bl__def_Def_after,lt_f,aftG,if_true,k_s,k_x,simprocAttr]
 | a::r,k,H,j4,hk,h,hlx,hg=>by
  obtain ⟨h1,h2,h3⟩:=hd_drop h
  obtain ⟨q,q1,q2⟩:=hlx.ia1 (ints_get h2) .i64
  have es:=wrap_s h1 (by omega)
  have ih:=after_loop (i:=i) hn hl hdx r (k + 1) H j4 h1 h3 hlx hg
  have htk:l.take (k + 1)=l.take k++[a]:=by rw [List.take_add_one,h2]; rfl
  rw [htk] at ih
  have e1:IntKind.wrap .i64 ((n:Int) - 1)=(n:Int) - 1:=wrap_i64 (by omega) (by omega)
  obtain ⟨lx',s1,s2,s3⟩:=sll_rw (n:=l.length) hlx (by rw [ints_len,Nat.mul_one]) (by decide) (a:=0) (b:=k) (lo:=none) (hi:=some (.int .i64 (k:Nat))) (Nat.zero_le _) hk (Bd.no 0) (Bd.yes _ _ _)
  have hs2:((ints l).drop (0 * 1)).take ((k - 0) * 1)=ints (l.take k):=by simp [ints,List.map_take]
  rw [hs2] at s2
  have hct:=containsint_c s2 (by rw [List.length_take]; omega) a
  rw [ql__def_Def_after]
  unfold aftG
  cases c1:(decide (0≤a) && decide (a≤(n:Int) - 1)) with
  | false=>simp (disch:=(first | assumption | omega | (simp only [k_d,k_c,simprocAttr] <;> fail) | (simp only [k_c]; omega) | (simp only [k_d,k_c,simprocAttr, *] <;> fail) | fail)) only [bl__def_Def_after,lt_t h1,q1,q2,hg,hdx,e1,din_c,c1,Bool.false_and,Bool.false_eq_true,if_false,k_a,k_b,k_s,k_x,simprocAttr]
  | true=>
   cases c2:(a == i) with
   | true=>
    have c2':(i == a)=true:=by rw [beq_iff_eq] at c2 ⊢; exact c2.symm
    simp (disch:=(first | assumption | omega | (simp only [k_d,k_c,simprocAttr] <;> fail) | (simp only [k_c]; omega) | (simp only [k_d,k_c,simprocAttr, *] <;> fail) | fail)) only [bl__def_Def_after,lt_t h1,q1,q2,hg,hdx,e1,din_c,c1,c2,c2',Bool.not_true,Bool.false_and,Bool.and_false,Bool.false_eq_true,if_false,k_a,k_b,k_s,k_x,simprocAttr]
   | false=>
    have c2':(i == a)=false:=by rw [← Bool.not_eq_true,beq_iff_eq] at c2 ⊢; exact fun e=>c2 e.symm
    cases c3:((l.take k).any (fun b=>a == b)) with
    | true=>simp (disch:=(first | assumption | omega | (simp only [k_d,k_c,simprocAttr] <;> fail) | (simp only [k_c]; omega) | (simp only [k_d,k_c,simprocAttr, *] <;> fail) | fail)) only [bl__def_Def_after,lt_t h1,q1,q2,hg,hdx,e1,din_c,c1,c2,c2',s1,hct,c3,Bool.not_true,Bool.not_false,Bool.false_and,Bool.and_false,Bool.true_and,Bool.false_eq_true,if_false,k_a,k_b,k_s,k_x,simprocAttr]
    | false=>simp (disch:=(first | assumption | omega | (simp only [k_d,k_c,simprocAttr] <;> fail) | (simp only [k_c]; omega) | (simp only [k_d,k_c,simprocAttr, *] <;> fail) | fail)) only [bl__def_Def_after,lt_t h1,q1,q2,hg,hdx,e1,din_c,c1,c2,c2',s1,hct,c3,es,ih,Bool.not_false,Bool.true_and,k_a,k_b,k_s,k_x,simprocAttr]
theorem after_c {dx:AV} {n:Nat} {l:List Int} {lx:AV} {i:Int} {H:Hp} (hn:n≤100000) (hl:l.length≤100000) (hdx:lenx dx=some (.int .i64 n)) (hd1:oneC dx=true) (hlx:Rw H 1 lx (ints l)) :
  cK (.func (.func 129) [] []) [dv dx,.int .i64 i,lx] H=some (.bool (aftG n i [] l),al H [dx] 59 0):=by
 refine c__def_Def_after ?_
 have hll:=hlx.len1
 rw [ints_len] at hll
 have h1:=fun j4=>after_loop (i:=i) (g:=H.next) hn hl hdx l 0 (al H [dx] 59 0) j4 (Nat.zero_le _) List.drop_zero (hlx.out0 (al_out _ _ _ _)) (cellAt_al rfl)
 rw [show (((0:Nat):Int))=0 from rfl,List.take_zero] at h1
 unfold s__def_Def_after
 simp (disch:=(first | assumption | omega | (simp only [k_d,k_c,simprocAttr] <;> fail) | (simp only [k_c]; omega) | (simp only [k_d,k_c,simprocAttr, *] <;> fail) | fail)) only [hll,h1,k_a,k_b,k_s,k_x,simprocAttr]
 cases aftG n i [] l <;> rfl
theorem good4_c {dx:AV} {n p:Nat} {t:Tk} {x:AV} {i:Int} {H:Hp} (hn:n≤100000) (hl:t.after.length≤100000) (hdx:lenx dx=some (.int .i64 n)) (hd1:oneC dx=true) (hp:cellAt H p 0=some dx) (hpl:p < H.next) (hx:Rw H 1 x (ints t.after)) :
  ∃ H',cK (.func (.func 128) [] [.ptr p 0]) [.int .i64 i,.agg (tkC t x)] H=some (.bool (!aftG n i [] t.after),H')∧Out [] H H':=by
 have o1:=al_out H (tkC t x) 107 0
 have ha:=after_c (i:=i) hn hl hdx hd1 (hx.out0 o1)
 refine ⟨al (al H (tkC t x) 107 0) [dx] 59 0,c_def_Good_4 ?_,o1.trans (al_out _ _ _ _)⟩
 obtain ⟨e0,e1,e2,e3,e4,e5⟩:=fd_tk t x
 have hc:cellsAt H p 0 1=some [dx]:=by unfold cellsAt cellsAt; rw [hp]; rfl
 unfold s_def_Good_4
 simp (disch:=(first | assumption | omega | (simp only [k_d,k_c,simprocAttr] <;> fail) | (simp only [k_c]; omega) | (simp only [k_d,k_c,simprocAttr, *] <;> fail) | fail)) only [bx_tk,hc,e1,ha,k_a,k_b,k_s,k_x,simprocAttr]
theorem some_loop {S:List Nat} {p:Nat→Bool} {dx fv:AV} {xs:List AV} {ts:List Tk} (I:Nat→Hp→Prop) (hn:ts.length≤100000) (hS:∀ j∈fpD dx xs,j∉S)
  (hI:∀ i H H',I i H→Out [] H H'→I i H')
  (hp:∀ i t x H,ts[i]? = some t→xs[i]? = some x→RD H dx xs ts→I i H→∃ H',cK fv [.int .i64 (i:Nat),.agg (tkC t x)] H=some (.bool (p i),H')∧Out S H H'∧(p i=false→I (i + 1) H')) :
  ∀ (r:List Tk) (i:Nat) (H:Hp),i≤ts.length→ts.drop i=r→RD H dx xs ts→I i H→
  ∃ H',(∀ k:K.Fn 0,l__def_Def_some JN GO cK k fv dx (.int .i64 (ts.length:Nat)) (.int .i64 (i:Nat)) H=if (List.range' i r.length).any p then some (.bool true,H') else k H')∧Out S H H'∧((List.range' i r.length).any p=false→I ts.length H')
 | [],i,H,hi,h,hR,hIi=>by
  obtain rfl:=drop_nil hi h
  refine ⟨H,fun k => ?_,Out.refl _ _,fun _=>hIi⟩
  rw [ql__def_Def_some]
  simp only [bl__def_Def_some,lt_f,List.length_nil,List.range'_zero,List.any_nil,Bool.false_eq_true,if_false,k_s,k_x,simprocAttr]
 | t::r,i,H,hi,h,hR,hIi=>by
  obtain ⟨h1,h2,h3⟩:=hd_drop h
  obtain ⟨x,b,o,q0,q1,q2,q3,q4,q5,_⟩:=hR.at h2
  have es:=wrap_s h1 (by omega)
  have o1:=al_out H (tkC t x) 107 0
  obtain ⟨H1,c1,c2,c3⟩:=hp i t x _ h2 q0 (hR.out0 o1) (hI _ _ _ hIi o1)
  have o2:Out S H H1:=(o1.mono fun j hj=>by cases hj).trans c2
  have hst:=st_tk t x q1 H
  have hany:(List.range' i (t::r).length).any p=(p i || (List.range' (i + 1) r.length).any p):=by rw [List.length_cons,List.range'_succ,List.any_cons]
  rw [hany]
  have htl:=tk_len t x
  have htt:=tk_take t x
  cases hpi:p i with
  | true=>
   refine ⟨H1,fun k => ?_,o2,fun q=>by simp at q⟩
   rw [hpi] at c1
   rw [ql__def_Def_some]
   simp (disch:=(first | assumption | omega | (simp only [k_d,k_c,simprocAttr] <;> fail) | (simp only [k_c]; omega) | (simp only [k_d,k_c,simprocAttr, *] <;> fail) | fail)) only [bl__def_Def_some,lt_t h1,q3,q5,hst,htl,htt,c1,Bool.true_or,if_true,k_a,k_b,k_s,k_x,simprocAttr]
  | false=>
   rw [hpi] at c1
   obtain ⟨H',i1,i2,i3⟩:=some_loop I hn hS hI hp r (i + 1) H1 h1 h3 (hR.out o2 hS) (c3 hpi)
   refine ⟨H',fun k => ?_,o2.trans i2,fun q=>i3 (by simpa using q)⟩
   rw [ql__def_Def_some]
   simp (disch:=(first | assumption | omega | (simp only [k_d,k_c,simprocAttr] <;> fail) | (simp only [k_c]; omega) | (simp only [k_d,k_c,simprocAttr, *] <;> fail) | fail)) only [bl__def_Def_some,lt_t h1,q3,q5,hst,htl,htt,c1,es,i1,Bool.false_or,k_a,k_b,k_s,k_x,simprocAttr]
theorem some_c {S:List Nat} {p:Nat→Bool} {dx fv:AV} {xs:List AV} {ts:List Tk} {H:Hp} (I:Nat→Hp→Prop) (hn:ts.length≤100000) (hS:∀ j∈fpD dx xs,j∉S)
  (hI:∀ i H H',I i H→Out [] H H'→I i H')
  (hp:∀ i t x H,ts[i]? = some t→xs[i]? = some x→RD H dx xs ts→I i H→∃ H',cK fv [.int .i64 (i:Nat),.agg (tkC t x)] H=some (.bool (p i),H')∧Out S H H'∧(p i=false→I (i + 1) H')) (hR:RD H dx xs ts) (h0:I 0 H) :
  ∃ H',cK (.func (.func 130) [] []) [dv dx,fv] H=some (.bool ((List.range ts.length).any p),H')∧Out S H H':=by
 have o1:=al_out H [dx] 59 0
 obtain ⟨H',i1,i2,_⟩:=some_loop I hn hS hI hp ts 0 _ (Nat.zero_le _) List.drop_zero (hR.out0 o1) (hI _ _ _ h0 o1)
 rw [show (((0:Nat):Int))=0 from rfl,← List.range_eq_range'] at i1
 refine ⟨H',c__def_Def_some ?_,(o1.mono fun j hj=>by cases hj).trans i2⟩
 have hdl:=hR.lenx
 have hd1:=hR.row.one
 unfold s__def_Def_some
 simp (disch:=(first | assumption | omega | (simp only [k_d,k_c,simprocAttr] <;> fail) | (simp only [k_c]; omega) | (simp only [k_d,k_c,simprocAttr, *] <;> fail) | fail)) only [hdl,i1,k_a,k_b,k_s,k_x,simprocAttr]
 cases (List.range ts.length).any p <;> rfl
def names (ts:List Tk):List Str:=ts.map (·.name)
def dup (ts:List Tk) (i:Nat):Bool:=match ts[i]? with | some t=>(names (ts.take i)).any (fun s=>s == t.name) | none=>false
def hadM (l:List (Str × Nat)):List ME:=l.map fun x=>⟨.str x.1,.bool true,x.2⟩
theorem hadM_ne {l:List (Str × Nat)} {s:Str} (h:∀ x∈l,x.1≠s):∀ e∈hadM l,∃ q,e.key = .str q∧q≠s:=by
 intro e he
 obtain ⟨x,hx,rfl⟩:=List.mem_map.1 he
 exact ⟨_,rfl,h x hx⟩
def HadI (m q:Nat) (ts:List Tk) (i:Nat) (H:Hp):Prop:=∃ el l c,Cs H q [.map m] el 0∧Mp H m (hadM l) c∧l.map (·.1)=names (ts.take i)∧q≠m∧(l.map (·.1)).Nodup
theorem good2_c {m q:Nat} {ts:List Tk} {i:Nat} {t:Tk} {x:AV} {H:Hp} (hI:HadI m q ts i H) (ht:ts[i]? = some t) :
  ∃ H',cK (.func (.func 126) [] [.ptr q 0]) [.int .i64 (i:Nat),.agg (tkC t x)] H=some (.bool (dup ts i),H')∧Out [m] H H'∧(dup ts i=false→HadI m q ts (i + 1) H'):=by
 obtain ⟨el,l,c,hq,hm,hl,hne,hnd⟩:=hI
 obtain ⟨e0,e1,e2,e3,e4,e5⟩:=fd_tk t x
 have o1:=al_out H (tkC t x) 107 0
 have hq1:=hq.out o1 (by simp)
 have hm1:=hm.out o1 (by simp)
 have hql:=hq.1
 have hqc:cellAt H q 0=some (.map m):=hq.cellAt rfl
 have hdup:dup ts i=l.any (fun y=>y.1 == t.name):=by
  unfold dup
  rw [ht]
  simp only
  rw [← hl,List.any_map]; rfl
 rw [hdup]
 have htk:names (ts.take (i + 1))=names (ts.take i)++[t.name]:=by rw [List.take_add_one,ht]; simp [names]
 cases hb:l.any (fun y=>y.1 == t.name) with
 | false=>
  have hno:∀ y∈l,y.1≠t.name:=by
   intro y hy e
   rw [List.any_eq_false] at hb
   exact hb y hy (by simpa using e)
  have hlk:=lkp_none hm1 (hadM_ne hno) (.bool false) false
  obtain ⟨H',u1,u2,u3⟩:=mup_new hm1 (hadM_ne hno) (.bool true)
  refine ⟨H',c_def_Good_2 ?_,(o1.mono fun j hj=>by cases hj).trans u3,fun _=>⟨el,l++[(t.name,c)],c + 1,hq1.out u3 (by rw [List.mem_singleton]; exact hne),by simpa [hadM] using u2,by rw [List.map_append,hl,htk]; rfl,hne,by
   rw [List.map_append,List.nodup_append]
   refine ⟨hnd,by simp,fun p hp r hr e => ?_⟩
   obtain ⟨y,hy,rfl⟩:=List.mem_map.1 hp
   simp at hr
   exact hno y hy (e.trans hr)⟩⟩
  simp only [cond_false] at hlk
  unfold s_def_Good_2
  simp (disch:=(first | assumption | omega | (simp only [k_d,k_c,simprocAttr] <;> fail) | (simp only [k_c]; omega) | (simp only [k_d,k_c,simprocAttr, *] <;> fail) | fail)) only [bx_tk,hqc,e0,hlk,u1,k_a,k_b,k_s,k_x,simprocAttr]
 | true=>
  rw [List.any_eq_true] at hb
  obtain ⟨y,hy,hye⟩:=hb
  have hye:y.1=t.name:=by simpa using hye
  have hfirst:∃ a z b,l=a++z::b∧z.1=t.name∧∀ w∈a,w.1≠t.name:=by
   clear hm hm1 hl hdup hnd
   induction l with
   | nil=>cases hy
   | cons w l ih=>
    by_cases hw:w.1=t.name
    ·exact ⟨[],w,l,rfl,hw,fun _ h=>by cases h⟩
    ·rcases List.mem_cons.1 hy with rfl | hy
     ·exact absurd hye hw
     ·obtain ⟨a,z,b,rfl,h2,h3⟩:=ih hy
      refine ⟨w::a,z,b,rfl,h2,fun v hv => ?_⟩
      rcases List.mem_cons.1 hv with rfl | hv
      ·exact hw
      ·exact h3 v hv
  obtain ⟨a,z,b,rfl,hz,ha⟩:=hfirst
  have hsp:hadM (a++z::b)=hadM a++⟨.str z.1,.bool true,z.2⟩::hadM b:=by simp [hadM]
  rw [hsp] at hm1
  have hbn:∀ w∈b,w.1≠t.name:=by
   intro w hw e
   rw [List.map_append,List.map_cons,List.nodup_append,List.nodup_cons] at hnd
   exact hnd.2.1.1 (List.mem_map.2 ⟨w,hw,e.trans hz.symm⟩)
  have hlk:=lkp_some (k:=t.name) hm1 (by rw [hz]) (hadM_ne ha) (hadM_ne hbn) (.bool false) false
  obtain ⟨H',u1,u2,u3⟩:=mup_old (k:=t.name) hm1 (by rw [hz]) (hadM_ne ha) (hadM_ne hbn) (.bool true)
  refine ⟨H',c_def_Good_2 ?_,(o1.mono fun j hj=>by cases hj).trans u3,fun q=>by cases q⟩
  simp only [cond_false] at hlk
  unfold s_def_Good_2
  simp (disch:=(first | assumption | omega | (simp only [k_d,k_c,simprocAttr] <;> fail) | (simp only [k_c]; omega) | (simp only [k_d,k_c,simprocAttr, *] <;> fail) | fail)) only [bx_tk,hqc,e0,hlk,u1,k_a,k_b,k_s,k_x,simprocAttr]
theorem gAE (a b c d:AV):gA P .eql 236 false (.agg [a,b]) (.agg [c,d])=true:=by kernel_rfl
theorem binE (e f:Ed) (H:Hp):binA P .eql 236 (.agg (edC e)) (.agg (edC f)) H=some (.bool (decide (e=f))):=by
 have h:=eqE e.1 e.2 f.1 f.2 48 H
 have h2:((((e.1:Nat):Int) == ((f.1:Nat):Int)) && (((e.2:Nat):Int) == ((f.2:Nat):Int)))=decide (e=f):=by
  by_cases q:e=f
  ·subst q; simp
  ·rw [decide_eq_false q,← Bool.not_eq_true,Bool.and_eq_true,beq_iff_eq,beq_iff_eq]
   intro z
   exact q (Prod.ext (by have:=z.1; omega) (by have:=z.2; omega))
 rw [h2] at h
 unfold binA
 show (eqA P 50 _ (.agg (edC e)) (.agg (edC f)) H).map AV.bool=_
 have:eqA P 50 236 (.agg (edC e)) (.agg (edC f)) H=some (decide (e=f)):=h
 rw [this]; rfl
theorem idxE_loop {x:AV} {E:List Ed} {e:Ed} {b:Nat} {H:Hp} (hx:RL H 2 x (edg E)) (hl:E.length≤16777216) (hb:cellsAt H b 0 2=some (edC e)) (hno:e∉E) (k:K.Fn 0):∀ (r:List Ed) (i:Nat),i≤E.length→E.drop i=r→
  l_slices_Index___graph_Edge_graph_Edge_ JN GO cK k x (.ptr b 0) (.int .i64 (E.length:Nat)) (.int .i64 (i:Nat)) H=k H
 | [],i,hi,h=>by
  obtain rfl:=drop_nil hi h
  rw [ql_slices_Index___graph_Edge_graph_Edge_]
  simp only [bl_slices_Index___graph_Edge_graph_Edge_,lt_f,k_s,k_x,simprocAttr]
 | f::r,i,hi,h=>by
  obtain ⟨h1,h2,h3⟩:=hd_drop h
  obtain ⟨c,o,q1,q2,q3,q4,_⟩:=hx.at (by decide) (edg_get h2)
  have es:=wrap_s h1 hl
  have ih:=idxE_loop hx hl hb hno k r (i + 1) h1 h3
  have hd:decide (e=f)=false:=decide_eq_false fun q=>hno (q ▸ List.mem_of_getElem? h2)
  have hg:gA P .eql 236 false (.agg (edC e)) (.agg (edC f))=true:=gAE _ _ _ _
  have hbe:=binE e f H
  rw [hd] at hbe
  have q4':cellsAt H c o 2=some (edC f):=q4
  rw [ql_slices_Index___graph_Edge_graph_Edge_]
  simp (disch:=(first | assumption | omega | (simp only [k_d,k_c,simprocAttr] <;> fail) | (simp only [k_c]; omega) | (simp only [k_d,k_c,simprocAttr, *] <;> fail) | fail)) only [bl_slices_Index___graph_Edge_graph_Edge_,lt_t h1,hb,q1,q4',hg,hbe,IFT_t,es,ih,k_a,k_b,k_s,k_x,simprocAttr]
theorem containsE_c {x:AV} {E:List Ed} {e:Ed} {H:Hp} (hx:RL H 2 x (edg E)) (hl:E.length≤16777216) (hno:e∉E) :
  ∃ H',cK (.func (.func 163) [] []) [x,.agg (edC e)] H=some (.bool false,H')∧Out [] H H':=by
 have o1:=al_out H (edC e) 236 0
 have o2:=o1.al (edC e) 236 0
 have hbx:∀ H:Hp,bx 236 (.agg (edC e)) H=some (H.next,al H (edC e) 236 0):=fun H=>bx_alA (by show 2≤_; omega)
 have hlen:(edC e).length=2:=rfl
 have htk:(edC e).take 2=edC e:=rfl
 have hidx:cK (.func (.func 182) [] []) [x,.agg (edC e)] (al H (edC e) 236 0)=some (.int .i64 (-1),al (al H (edC e) 236 0) (edC e) 236 0):=by
  refine c_slices_Index___graph_Edge_graph_Edge_ ?_
  have hxl:=(hx.out0 o2).len (by decide)
  rw [edg_len] at hxl
  have h1:=idxE_loop (b:=H.next + 1) (hx.out0 o2) hl (cellsAt_al (by rw [al_nx]) (by rw [hlen]; omega)) hno (fun h=>some (.int .i64 (-1),h)) E 0 (Nat.zero_le _) List.drop_zero
  rw [show (((0:Nat):Int))=0 from rfl] at h1
  unfold s_slices_Index___graph_Edge_graph_Edge_
  simp (disch:=(first | assumption | omega | (simp only [k_d,k_c,simprocAttr] <;> fail) | (simp only [k_c]; omega) | (simp only [k_d,k_c,simprocAttr, *] <;> fail) | fail)) only [hbx,hxl,h1,k_a,k_b,k_s,k_x,simprocAttr]
 refine ⟨_,c_slices_Contains___graph_Edge_graph_Edge_ ?_,o2⟩
 unfold s_slices_Contains___graph_Edge_graph_Edge_
 have d:decide ((0:Int) ≤ -1)=false:=by decide
 simp (disch:=(first | assumption | omega | (simp only [k_d,k_c,simprocAttr] <;> fail) | (simp only [k_c]; omega) | (simp only [k_d,k_c,simprocAttr, *] <;> fail) | fail)) only [hbx,hlen,htk,hidx,d,k_a,k_b,k_s,k_x,simprocAttr]
def edOf (i:Nat) (l:List Int):List Ed:=l.map fun a=>(a.toNat,i)
def edFrom (i:Nat):List Tk→List Ed
 | []=>[]
 | t::r=>edOf i t.after++edFrom (i + 1) r
theorem edFrom_app (ts us:List Tk):∀ i,edFrom i (ts++us)=edFrom i ts++edFrom (i + ts.length) us:=by
 induction ts with
 | nil=>intro i; rfl
 | cons t ts ih=>intro i; simp only [List.cons_append,edFrom,ih,List.append_assoc,List.length_cons]; rw [show i + 1 + ts.length=i + (ts.length + 1) by omega]
theorem edFrom_take {ts:List Tk} {i:Nat} {t:Tk} (ht:ts[i]? = some t):edFrom 0 (ts.take (i + 1))=edFrom 0 (ts.take i)++edOf i t.after:=by
 have hi:=(List.getElem?_eq_some_iff.1 ht).1
 rw [List.take_add_one,ht]
 show edFrom 0 (ts.take i++[t])=_
 rw [edFrom_app,List.length_take,Nat.min_eq_left (by omega),Nat.zero_add]
 simp [edFrom]
theorem edFrom_snd {ts:List Tk}:∀ {i:Nat} {e:Ed},e∈edFrom i ts→i≤e.2∧e.2 < i + ts.length:=by
 induction ts with
 | nil=>intro i e h; cases h
 | cons t ts ih=>
  intro i e h
  simp only [edFrom,List.mem_append] at h
  rcases h with h | h
  ·obtain ⟨a,_,rfl⟩:=List.mem_map.1 h
   simp
  ·have:=ih h
   simp only [List.length_cons]; omega
def aftAll (ts:List Tk):Prop:=∀ (i:Nat) (t:Tk),ts[i]? = some t→aftG ts.length i [] t.after=true
theorem aftG_cons {n i:Int} {pre:List Int} {a:Int} {l:List Int} (h:aftG n i pre (a::l)=true):0≤a∧a≤n - 1∧a≠i∧a∉pre∧aftG n i (pre++[a]) l=true:=by
 unfold aftG at h
 simp only [Bool.and_eq_true,decide_eq_true_eq,Bool.not_eq_true',List.any_eq_false,beq_iff_eq,beq_eq_false_iff_ne] at h
 obtain ⟨⟨h1,h2⟩,h3,h4,h5⟩:=h
 exact ⟨h1,h2,fun e=>h3 e.symm,fun q=>h4 a q rfl,h5⟩
theorem graph1_loop {dx:AV} {n i:Nat} {E0:List Ed} {D R g:Nat} {l:List Int} {lx:AV} (hn:n≤16) (hin:i < n) (hdx:lenx dx=some (.int .i64 n)) (hE0:∀ e∈E0,e.2 < i) (hE0l:E0.length≤10000) (hll:l.length≤16) (hDg:D≠g) :
  ∀ (r:List Int) (k:Nat) (H:Hp) (ex:AV) (c5 c6 c7:AV),k≤l.length→l.drop k=r→aftG n i (l.take k) r=true→(∀ b∈l.take k,(0:Int)≤b)→Rw H 1 lx (ints l)→cellAt H D 0=some dx→D < H.next→Cs H g [.int .i64 n,ex] 206 0→OL H 236 2 ex (edg (E0++edOf i (l.take k)))→(∀ j∈rid ex,j∉rid lx∧j≠D∧j≠g)→g∉rid lx→
  ∃ ex' H' S,(∀ (j20:K.Fn 2) (j31 j50:K.Fn 6),l_def_Graph1 JN GO cK j20 j31 j50 (.ptr D 0) (.ptr R 0) (.ptr g 0) (.int .i64 i) c5 c6 c7 lx (.int .i64 (l.length:Nat)) (.int .i64 (k:Nat)) H=j50 (.ptr D 0) (.ptr R 0) (.ptr g 0) c5 c6 c7 H')∧Cs H' g [.int .i64 n,ex'] 206 0∧OL H' 236 2 ex' (edg (E0++edOf i l))∧Out S H H'∧(∀ j∈S,j=g∨j∈rid ex∨H.next≤j)∧∀ j∈rid ex',j∈rid ex∨H.next≤j
 | [],k,H,ex,c5,c6,c7,hk,h,ha,hnn,hlx,hD,hDl,hg,hO,hd,hgl=>by
  obtain rfl:=drop_nil hk h
  refine ⟨ex,H,[],fun j20 j31 j50 => ?_,hg,by rw [List.take_of_length_le (Nat.le_refl _)] at hO; exact hO,Out.refl _ _,(fun j hj=>by cases hj),fun j hj => .inl hj⟩
  rw [ql_def_Graph1]
  simp only [bl_def_Graph1,lt_f,k_s,k_x,simprocAttr]
 | a::r,k,H,ex,c5,c6,c7,hk,h,ha,hnn,hlx,hD,hDl,hg,hO,hd,hgl=>by
  obtain ⟨h1,h2,h3⟩:=hd_drop h
  obtain ⟨q,q1,q2⟩:=hlx.ia1 (ints_get h2) .i64
  have es:=wrap_s h1 (by omega)
  obtain ⟨a0,a1,a2,a3,a4⟩:=aftG_cons ha
  obtain ⟨m,rfl⟩:∃ m:Nat,a=m:=⟨a.toNat,by omega⟩
  have htk:l.take (k + 1)=l.take k++[(m:Int)]:=by rw [List.take_add_one,h2]; rfl
  have hEk:(edOf i (l.take k)).length≤16:=by simp [edOf]; omega
  have hno:((m,i):Ed)∉E0++edOf i (l.take k):=by
   intro q
   rcases List.mem_append.1 q with q | q
   ·have:=hE0 _ q; simp at this
   ·obtain ⟨b,hb,he⟩:=List.mem_map.1 q
    have hb0:=hnn b hb
    have:b.toNat=m:=congrArg Prod.fst he
    exact a3 (by rw [show ((m:Nat):Int)=b by omega]; exact hb)
  have o1:=al_out H (edC (m,i)) 236 0
  obtain ⟨H1,c1,c2⟩:=containsE_c (hO.rl.out0 o1) (by rw [List.length_append]; omega) hno
  have o2:Out [] H H1:=o1.trans c2
  have hn2:=c2.nx
  rw [al_nx] at hn2
  have hg1:=hg.out o2 (by simp)
  have hgc:cellAt H g 1=some ex:=hg.cellAt rfl
  have hgc1:cellAt H1 g 1=some ex:=hg1.cellAt rfl
  have hglt:=hg.1
  have hed:cellsAt H1 H.next 0 2=some (edC (m,i)):=by
   rw [c2.cellsAt (by rw [al_nx]; omega) (by simp)]
   exact cellsAt_al rfl (by show 0 + 2≤2; omega)
  obtain ⟨ex1,H2,p1,p2,p3,p4,p5⟩:=(hO.out o2 (by simp)).push (el2:=236) (z:=[(.int .i64 0),(.int .i64 0)]) (vs:=edC (m,i)) rfl rfl (by decide) (by rw [edg_len,List.length_append]; omega)
  have hp2:edg (E0++edOf i (l.take k))++[edC (m,i)]=edg (E0++edOf i (l.take (k + 1))):=by rw [htk]; simp [edg,edOf]
  rw [hp2] at p2
  have hg2:=hg1.out p3 fun q=>(hd g q).2.2 rfl
  obtain ⟨H3,w1,w2,w3,w4⟩:=st1 hg2 (by decide) (o:=1) (by simp) (v:=ex1) p5
  have hn3:=p3.nx
  have hlxl:=hlx.lt
  have hr1:∀ j∈rid ex1,j∉rid lx∧j≠D∧j≠g:=fun j hj=>(p4 j hj).elim (hd j) fun z=>⟨fun y=>by have:=hlxl j y; omega,by omega,by omega⟩
  have o3:Out (g::rid ex) H H3:=((o2.mono fun j hj=>by cases hj).trans (p3.mono fun j hj => .tail _ hj)).trans (w3.mono fun j hj=>by rw [List.mem_singleton] at hj; subst hj; exact .head _)
  have hDc:cellAt H3 D 0=some dx:=by rw [o3.cellAt hDl (by rw [List.mem_cons,not_or]; exact ⟨hDg,fun q=>(hd D q).2.1 rfl⟩)]; exact hD
  have hn4:=o3.nx
  obtain ⟨ex',H',S,i1,i2,i3,i4,i5,i6⟩:=graph1_loop (R:=R) hn hin hdx hE0 hE0l hll hDg r (k + 1) H3 ex1 c5 c6 c7 h1 h3 (by rw [htk]; exact a4) (by rw [htk]; intro b hb; rcases List.mem_append.1 hb with hb | hb; exact hnn b hb; rw [List.mem_singleton] at hb; omega)
   (hlx.out o3 fun j hj=>by rw [List.mem_cons,not_or]; exact ⟨fun e=>hgl (e ▸ hj),fun q=>(hd j q).1 hj⟩) hDc (by omega) w2 (p2.out w3 fun j hj=>by rw [List.mem_singleton]; exact (hr1 j hj).2.2) hr1 hgl
  have key:∀ j∈rid ex1,j∈rid ex∨H.next≤j:=fun j hj=>(p4 j hj).imp id fun z=>by omega
  refine ⟨ex',H',(g::rid ex)++S,fun j20 j31 j50 => ?_,i2,i3,(o3.mono fun j hj=>List.mem_append_left _ hj).trans (i4.mono fun j hj=>List.mem_append_right _ hj),fun j hj => ?_,fun j hj=>(i6 j hj).elim (key j) fun z => .inr (by omega)⟩
  ·have e1:IntKind.wrap .i64 ((n:Int) - 1)=(n:Int) - 1:=wrap_i64 (by omega) (by omega)
   have d1:(decide ((0:Int)≤(m:Int)) && decide ((m:Int)≤(n:Int) - 1))=true:=by rw [Bool.and_eq_true]; exact ⟨decide_eq_true a0,decide_eq_true a1⟩
   have d2:(((m:Nat):Int) != ((i:Nat):Int))=true:=by simp; omega
   have hfl:fl [(.int .i64 0),(.int .i64 0)] [(0,1,.int .i64 (m:Int)),(1,1,.int .i64 (i:Int))]=some (edC (m,i)):=rfl
   have hfl2:fl [(.int .i64 0),(.int .i64 0)] [(0,2,.agg (edC (m,i)))]=some (edC (m,i)):=rfl
   have st0:st 2 (.ptr H.next 0) (.agg (edC (m,i))) (al H [.int .i64 0,.int .i64 0] 236 0)=some (al H (edC (m,i)) 236 0):=st_alN rfl rfl rfl (by decide) rfl
   have hel:(edC (m,i)).length=2:=rfl
   have htk2:(edC (m,i)).take 2=edC (m,i):=rfl
   have hnc:newCells H1 (edC (m,i)) 236 0=some (H1.next,al H1 (edC (m,i)) 236 0):=newCells_al (by rw [hel]; omega)
   have p1':=p1 _ rfl
   rw [ql_def_Graph1]
   simp (disch:=(first | assumption | omega | (simp only [k_d,k_c,simprocAttr] <;> fail) | (simp only [k_c]; omega) | (simp only [k_d,k_c,simprocAttr, *] <;> fail) | fail)) only [bl_def_Graph1,lt_t h1,q1,q2,hfl,hfl2,st0,hel,htk2,hD,hdx,e1,din_c,d1,d2,hgc,hgc1,c1,hed,hnc,p1',w1,es,i1,k_a,k_b,k_s,k_x,simprocAttr]
  ·rcases List.mem_append.1 hj with hj | hj
   ·rcases List.mem_cons.1 hj with rfl | hj
    ·exact .inl rfl
    ·exact .inr (.inl hj)
   ·rcases i5 j hj with z | z | z
    ·exact .inl z
    ·exact .inr (key j z)
    ·exact .inr (.inr (by omega))
theorem graph_loop {dx:AV} {xs:List AV} {ts:List Tk} {D R g:Nat} (hn:ts.length≤16) (hal:∀ t∈ts,t.after.length≤16) (ha:aftAll ts) (hDg:D≠g) (hgf:g∉fpD dx xs) :
  ∀ (r:List Tk) (i:Nat) (H:Hp) (ex:AV),i≤ts.length→ts.drop i=r→RD H dx xs ts→cellAt H D 0=some dx→D < H.next→Cs H g [.int .i64 (ts.length:Nat),ex] 206 0→OL H 236 2 ex (edg (edFrom 0 (ts.take i)))→(edFrom 0 (ts.take i)).length≤i * 16→(∀ j∈rid ex,j∉fpD dx xs∧j≠D∧j≠g)→
  ∃ ex' H' S,(∀ j20:K.Fn 2,l_def_Graph JN GO cK j20 (.ptr D 0) (.ptr R 0) (.ptr g 0) dx (.int .i64 (ts.length:Nat)) (.int .i64 (i:Nat)) H=j20 (.ptr R 0) (.ptr g 0) H')∧Cs H' g [.int .i64 (ts.length:Nat),ex'] 206 0∧OL H' 236 2 ex' (edg (edFrom 0 ts))∧Out S H H'∧(∀ j∈S,j=g∨j∈rid ex∨H.next≤j)∧∀ j∈rid ex',j∈rid ex∨H.next≤j
 | [],i,H,ex,hi,h,hR,hD,hDl,hg,hO,hlen,hd=>by
  obtain rfl:=drop_nil hi h
  refine ⟨ex,H,[],fun j20 => ?_,hg,by rw [List.take_of_length_le (Nat.le_refl _)] at hO; exact hO,Out.refl _ _,(fun j hj=>by cases hj),fun j hj => .inl hj⟩
  rw [ql_def_Graph]
  simp only [bl_def_Graph,lt_f,k_s,k_x,simprocAttr]
 | t::r,i,H,ex,hi,h,hR,hD,hDl,hg,hO,hlen,hd=>by
  obtain ⟨h1,h2,h3⟩:=hd_drop h
  obtain ⟨x,b,o,q0,q1,q2,q3,q4,q5,_⟩:=hR.at h2
  have es:=wrap_s h1 (by omega)
  have hht:=hal t (List.mem_of_getElem? h2)
  have o1:=al_out H (tkC t x) 107 0
  have hxf:∀ j∈rid x,j∈fpD dx xs:=fun j hj=>List.mem_append_right _ (List.mem_flatMap.2 ⟨x,List.mem_of_getElem? q0,hj⟩)
  have hgl:=hg.1
  have hxr:=hO.1.rw.lt
  obtain ⟨ex1,H1,S1,i1,i2,i3,i4,i5,i6⟩:=graph1_loop (E0:=edFrom 0 (ts.take i)) (R:=R) (D:=D) (g:=g) hn h1 hR.lenx (fun e he=>by have:=edFrom_snd he; rw [List.length_take] at this; omega) (by omega) hht hDg t.after 0 _ ex dx (.int .i64 (ts.length:Nat)) (.int .i64 (i:Nat)) (Nat.zero_le _) List.drop_zero (by rw [List.take_zero]; exact ha i t h2) (by intro b hb; rw [List.take_zero] at hb; cases hb) (q2.out0 o1) (by rw [cellAt_al_ne hDl]; exact hD) (by rw [al_nx]; omega) (hg.out o1 (by simp)) (by rw [List.take_zero]; simpa [edOf] using hO.out o1 (by simp)) (fun j hj=>⟨fun z=>(hd j hj).1 (hxf j z),(hd j hj).2⟩) (fun z=>hgf (hxf g z))
  rw [← edFrom_take h2] at i3
  have hlen2:(edFrom 0 (ts.take (i + 1))).length≤(i + 1) * 16:=by rw [edFrom_take h2,List.length_append]; simp [edOf]; omega
  have hfl:=hR.lt
  have hSn:∀ j∈S1,j=g∨j∈rid ex∨H.next≤j:=fun j hj=>by
   rcases i5 j hj with z | z | z
   ·exact .inl z
   ·exact .inr (.inl z)
   ·rw [al_nx] at z; exact .inr (.inr (by omega))
  have key:∀ j∈rid ex1,j∈rid ex∨H.next≤j:=fun j hj=>(i6 j hj).imp id fun z=>by rw [al_nx] at z; omega
  have o2:Out S1 H H1:=(o1.mono fun j hj=>by cases hj).trans i4
  have hn2:=o2.nx
  have hfS:∀ j∈fpD dx xs,j∉S1:=fun j hj z=>by
   rcases hSn j z with rfl | y | y
   ·exact hgf hj
   ·exact (hd j y).1 hj
   ·have:=hfl j hj; omega
  have hDS:D∉S1:=fun z=>by
   rcases hSn D z with y | y | y
   ·exact hDg y
   ·exact (hd D y).2.1 rfl
   ·omega
  obtain ⟨ex',H',S,k1,k2,k3,k4,k5,k6⟩:=graph_loop (R:=R) hn hal ha hDg hgf r (i + 1) H1 ex1 h1 h3 (hR.out o2 hfS) (by rw [o2.cellAt hDl hDS]; exact hD) (by omega) i2 i3 hlen2 (fun j hj=>(key j hj).elim (hd j) fun z=>⟨fun y=>by have:=hfl j y; omega,by omega,by omega⟩)
  refine ⟨ex',H',S1++S,fun j20 => ?_,k2,k3,(o2.mono fun j hj=>List.mem_append_left _ hj).trans (k4.mono fun j hj=>List.mem_append_right _ hj),fun j hj => ?_,fun j hj=>(k6 j hj).elim (key j) fun z => .inr (by omega)⟩
  ·have hst:=st_tk t x q1 H
   obtain ⟨e0,e1,e2,e3,e4,e5⟩:=fd_tk t x
   have hl:=q2.len1
   rw [ints_len] at hl
   rw [show (((0:Nat):Int))=0 from rfl] at i1
   rw [ql_def_Graph]
   simp (disch:=(first | assumption | omega | (simp only [k_d,k_c,simprocAttr] <;> fail) | (simp only [k_c]; omega) | (simp only [k_d,k_c,simprocAttr, *] <;> fail) | fail)) only [bl_def_Graph,lt_t h1,q3,q5,hst,e1,hl,i1,es,k1,k_a,k_b,k_s,k_x,simprocAttr]
  ·rcases List.mem_append.1 hj with hj | hj
   ·exact hSn j hj
   ·rcases k5 j hj with z | z | z
    ·exact .inl z
    ·exact .inr (key j z)
    ·exact .inr (.inr (by omega))
theorem graph_c {dx:AV} {xs:List AV} {ts:List Tk} {H:Hp} (hn:ts.length≤16) (hal:∀ t∈ts,t.after.length≤16) (ha:aftAll ts) (hR:RD H dx xs ts) :
  ∃ ex H',cK (.func (.func 132) [] []) [dv dx] H=some (gv ts.length ex,H')∧RL H' 2 ex (edg (edFrom 0 ts))∧Out [] H H'∧∀ j∈rid ex,H.next≤j:=by
 have hd1:=hR.row.one
 have hdl:=hR.lenx
 have hfl:=hR.lt
 have o1:=al_out H [dx] 59 0
 have o2:=o1.al [.int .i64 0,.slice0] 206 0
 have o3:=o2.al [.int .i64 (ts.length:Nat),.slice0] 206 0
 have c3:=al_cs (al (al H [dx] 59 0) [.int .i64 0,.slice0] 206 0) [.int .i64 (ts.length:Nat),.slice0] 206 0
 have c2:=(al_cs (al H [dx] 59 0) [.int .i64 0,.slice0] 206 0).out (al_out (al (al H [dx] 59 0) [.int .i64 0,.slice0] 206 0) [.int .i64 (ts.length:Nat),.slice0] 206 0) (by simp)
 have hD:cellAt (al (al (al H [dx] 59 0) [.int .i64 0,.slice0] 206 0) [.int .i64 (ts.length:Nat),.slice0] 206 0) H.next 0=some dx:=by
  rw [cellAt_al_ne (by rw [al_nx,al_nx]; omega),cellAt_al_ne (by rw [al_nx]; omega),cellAt_al rfl]; rfl
 obtain ⟨ex,H1,S,i1,i2,i3,i4,i5,i6⟩:=graph_loop (D:=H.next) (R:=H.next + 1) (g:=H.next + 2) hn hal ha (by omega) (fun z=>by have:=hfl _ z; omega) ts 0 _ .slice0 (Nat.zero_le _) List.drop_zero (hR.out0 o3) hD (by rw [al_nx,al_nx,al_nx]; omega) c3 (by rw [List.take_zero]; exact OL.nil _ _ _) (by rw [List.take_zero]; simp [edFrom]) (fun j hj=>by cases hj)
 have hnx:(al (al (al H [dx] 59 0) [.int .i64 0,.slice0] 206 0) [.int .i64 (ts.length:Nat),.slice0] 206 0).next=H.next + 3:=rfl
 have hS:∀ j∈S,j=H.next + 2∨H.next + 3≤j:=fun j hj=>by
  rcases i5 j hj with z | z | z
  ·exact .inl z
  ·cases z
  ·exact .inr (by omega)
 have hn1:=i4.nx
 have hc2:Cs H1 (H.next + 1) [.int .i64 0,.slice0] 206 0:=c2.out i4 fun z=>by have:=hS _ z; rw [al_nx] at this; omega
 have hex1:=i3.1.oneX
 obtain ⟨H2,w1,w2,w3,w4⟩:∃ H2,st 2 (.ptr (H.next + 1) 0) (.agg [.int .i64 (ts.length:Nat),ex]) H1=some H2∧Cs H2 (H.next + 1) [.int .i64 (ts.length:Nat),ex] 206 0∧Out [H.next + 1] H1 H2∧H2.next=H1.next:=by
  obtain ⟨Ha,a1,a2,a3,a4⟩:=setCell_ok hc2 (by decide) (o:=0) (by decide) (v := .int .i64 (ts.length:Nat)) rfl
  obtain ⟨Hb,b1,b2,b3,b4⟩:=setCell_ok a2 (by decide) (o:=1) (by simp) (v:=ex) hex1
  refine ⟨Hb,?_,b2,a3.trans b3,by rw [b4,a4]⟩
  unfold st
  simp only [cellsV_agg]
  show setCells H1 (H.next + 1) 0 [.int .i64 (ts.length:Nat),ex]=_
  simp only [setCells,a1,b1,Option.bind_eq_bind,Option.bind_some]
 have hrx:∀ j∈rid ex,H.next + 3≤j:=fun j hj=>(i6 j hj).elim (fun z=>by cases z) fun z=>by omega
 refine ⟨ex,H2,c_def_Graph ?_,(i3.rl).out w3 fun j hj=>by rw [List.mem_singleton]; have:=hrx j hj; omega,(o3.then i4 fun j hj => .inr (by have:=hS j hj; omega)).then w3 fun j hj=>by rw [List.mem_singleton] at hj; exact .inr (by omega),fun j hj=>by have:=hrx j hj; omega⟩
 have hfl2:fl [.int .i64 0,.slice0] [(0,1,.int .i64 (ts.length:Nat))]=some [.int .i64 (ts.length:Nat),.slice0]:=rfl
 have hg2:cellsAt H1 (H.next + 2) 0 2=some [.int .i64 (ts.length:Nat),ex]:=i2.cellsAt 2 0 (by simp)
 have hr2:cellsAt H2 (H.next + 1) 0 2=some [.int .i64 (ts.length:Nat),ex]:=w2.cellsAt 2 0 (by simp)
 have st0:st 2 (.ptr (H.next + 2) 0) (.agg [.int .i64 (ts.length:Nat),.slice0]) (al (al (al H [dx] 59 0) [.int .i64 0,.slice0] 206 0) [.int .i64 0,.slice0] 206 0)=some (al (al (al H [dx] 59 0) [.int .i64 0,.slice0] 206 0) [.int .i64 (ts.length:Nat),.slice0] 206 0):=st_alN rfl rfl rfl (by decide) rfl
 rw [show (((0:Nat):Int))=0 from rfl] at i1
 unfold s_def_Graph
 simp (disch:=(first | assumption | omega | (simp only [k_d,k_c,simprocAttr] <;> fail) | (simp only [k_c]; omega) | (simp only [k_d,k_c,simprocAttr, *] <;> fail) | fail)) only [hdl,hfl2,st0,i1,hg2,w1,hr2,k_a,k_b,k_s,k_x,simprocAttr]
theorem aft_all {ts:List Tk} {i:Nat} {t:Tk} (ha:aftAll ts) (ht:ts[i]? = some t):(∀ a∈t.after,0≤a∧a≤(ts.length:Int) - 1∧a≠(i:Int))∧t.after.Nodup:=by
 have key:∀ (l pre:List Int),aftG ts.length i pre l=true→(∀ a∈l,0≤a∧a≤(ts.length:Int) - 1∧a≠(i:Int)∧a∉pre)∧l.Nodup:=by
  intro l
  induction l with
  | nil=>intro pre _; exact ⟨(fun a ha=>by cases ha),List.nodup_nil⟩
  | cons a l ih=>
   intro pre h
   obtain ⟨a0,a1,a2,a3,a4⟩:=aftG_cons h
   obtain ⟨i1,i2⟩:=ih _ a4
   refine ⟨fun b hb => ?_,List.nodup_cons.2 ⟨fun q=>(i1 a q).2.2.2 (by simp),i2⟩⟩
   rcases List.mem_cons.1 hb with rfl | hb
   ·exact ⟨a0,a1,a2,a3⟩
   ·obtain ⟨x1,x2,x3,x4⟩:=i1 b hb
    exact ⟨x1,x2,x3,fun q=>x4 (List.mem_append_left _ q)⟩
 obtain ⟨k1,k2⟩:=key _ _ (ha i t ht)
 exact ⟨fun a h=>⟨(k1 a h).1,(k1 a h).2.1,(k1 a h).2.2.1⟩,k2⟩
theorem pigeon:∀ (n:Nat) (l:List Nat),l.Nodup→(∀ a∈l,a < n)→l.length≤n
 | 0,l,_,h=>by
  cases l with
  | nil=>exact Nat.le_refl _
  | cons a l=>have:=h a (.head _); omega
 | n + 1,l,hn,h=>by
  by_cases hm:n∈l
  ·have h1:=pigeon n (l.erase n) (hn.erase n) fun a ha=>by
    rw [hn.mem_erase_iff] at ha
    have:=h a ha.2
    omega
   rw [List.length_erase_of_mem hm] at h1
   omega
  ·have h1:=pigeon n l hn fun a ha=>by
    have:=h a ha
    have:a≠n:=fun e=>hm (e ▸ ha)
    omega
   omega
theorem nodup_le {n:Nat} {l:List Int} (h:∀ a∈l,0≤a∧a≤(n:Int) - 1) (hn:l.Nodup):l.length≤n:=by
 have h1:(l.map Int.toNat).Nodup:=by
  rw [List.nodup_iff_pairwise_ne,List.pairwise_map]
  refine (List.nodup_iff_pairwise_ne.1 hn).imp_of_mem ?_
  intro a b ha hb hab e
  have:=h a ha; have:=h b hb; omega
 have:=pigeon n _ h1 fun m hm=>by
  obtain ⟨a,ha,rfl⟩:=List.mem_map.1 hm
  have:=h a ha; omega
 simpa using this
theorem goodE_of {ts:List Tk} (hn:ts.length≤16) (ha:aftAll ts):GoodE ts.length (edFrom 0 ts):=by
 have key:∀ (k:Nat),k≤ts.length→(∀ e∈edFrom 0 (ts.take k),e.1 < ts.length∧e.2 < ts.length∧e.1≠e.2)∧(edFrom 0 (ts.take k)).Nodup∧(edFrom 0 (ts.take k)).length≤k * 16:=by
  intro k
  induction k with
  | zero=>intro _; rw [List.take_zero]; exact ⟨(fun e he=>by cases he),List.nodup_nil,Nat.zero_le _⟩
  | succ k ih=>
   intro hk
   obtain ⟨i1,i2,i3⟩:=ih (by omega)
   have ht:ts[k]? = some (ts[k]'(by omega)):=List.getElem?_eq_getElem _
   obtain ⟨a1,a2⟩:=aft_all ha ht
   have hle:=nodup_le (n:=ts.length) (fun a h=>⟨(a1 a h).1,(a1 a h).2.1⟩) a2
   rw [edFrom_take ht]
   refine ⟨fun e he => ?_,List.nodup_append.2 ⟨i2,?_,fun e he f hf hef => ?_⟩,?_⟩
   ·rcases List.mem_append.1 he with he | he
    ·exact i1 e he
    ·obtain ⟨a,h,rfl⟩:=List.mem_map.1 he
     have:=a1 a h
     exact ⟨by simp; omega,by simp; omega,by simp; omega⟩
   ·unfold edOf
    rw [List.nodup_iff_pairwise_ne,List.pairwise_map]
    refine (List.nodup_iff_pairwise_ne.1 a2).imp_of_mem ?_
    intro a b h1 h2 hab e
    have e1:=congrArg Prod.fst e
    have:=a1 a h1; have:=a1 b h2
    simp only at e1
    omega
   ·obtain ⟨a,h,rfl⟩:=List.mem_map.1 hf
    have:=edFrom_snd he
    rw [List.length_take] at this
    rw [hef] at this
    simp at this; omega
   ·rw [List.length_append]; simp [edOf]; omega
 obtain ⟨k1,k2,k3⟩:=key ts.length (Nat.le_refl _)
 rw [List.take_of_length_le (Nat.le_refl _)] at k1 k2 k3
 exact ⟨hn,k1,k2,by omega⟩
noncomputable def p1 (ts:List Tk) (i:Nat):Bool:=match ts[i]? with | some t=>odd1 t | none=>false
def p3 (ts:List Tk) (i:Nat):Bool:=match ts[i]? with | some t=>odd3 t | none=>false
def p4 (ts:List Tk) (i:Nat):Bool:=match ts[i]? with | some t => !aftG ts.length i [] t.after | none=>false
instance (N:Nat) (E:List Ed):Decidable (noCyc N E):=by unfold noCyc; infer_instance
noncomputable def goodM (ts:List Tk):Int:=
 if ¬ (1≤ts.length∧ts.length≤16) then 1
 else if (List.range ts.length).any (p1 ts) then 2
 else if (List.range ts.length).any (dup ts) then 5
 else if (List.range ts.length).any (p3 ts) then 1
 else if (List.range ts.length).any (p4 ts) then 1
 else if noCyc ts.length (edFrom 0 ts) then 0 else 7
theorem any_p4 {ts:List Tk} (h:(List.range ts.length).any (p4 ts)=false):aftAll ts:=by
 intro i t ht
 have hi:=(List.getElem?_eq_some_iff.1 ht).1
 rw [List.any_eq_false] at h
 have:=h i (List.mem_range.2 hi)
 unfold p4 at this
 rw [ht] at this
 simpa using this
theorem tri:∀ (i:Nat) (H H':Hp),True→Out [] H H'→True:=fun _ _ _ _ _=>trivial
abbrev tyS:Nat:=199
theorem dgood_c {dx:AV} {xs:List AV} {ts:List Tk} {H:Hp} (hn:ts.length≤100000) (hal:∀ t∈ts,t.after.length≤100000) (hR:RD H dx xs ts) :
  ∃ H',cK (.func (.func 95) [] []) [dv dx] H=some (.int .i64 (goodM ts),H')∧Out [] H H':=by
 have hd1:=hR.row.one
 have hdl:=hR.lenx
 have hfl:=hR.lt
 have o1:=al_out H [dx] 59 0
 by_cases hr:¬ (1≤ts.length∧ts.length≤16)
 ·refine ⟨al H [dx] 59 0,c_def_Good ?_,o1⟩
  have d:(decide ((1:Int)≤(ts.length:Int)) && decide ((ts.length:Int)≤16))=false:=by
   rw [← Bool.not_eq_true,Bool.and_eq_true,decide_eq_true_eq,decide_eq_true_eq]; omega
  unfold s_def_Good goodM
  rw [if_pos hr]
  simp (disch:=(first | assumption | omega | (simp only [k_d,k_c,simprocAttr] <;> fail) | (simp only [k_c]; omega) | (simp only [k_d,k_c,simprocAttr, *] <;> fail) | fail)) only [hdl,din_c,d,k_a,k_b,k_s,k_x,simprocAttr]
 have hr':=hr
 replace hr:1≤ts.length∧ts.length≤16:=Decidable.not_not.1 hr
 have d:(decide ((1:Int)≤(ts.length:Int)) && decide ((ts.length:Int)≤16))=true:=by
  rw [Bool.and_eq_true,decide_eq_true_eq,decide_eq_true_eq]; omega
 obtain ⟨H2,m1,m2,m3,m4⟩:=mk0_ok (al H [dx] 59 0)
 rw [al_nx] at m1 m2 m4
 have o2:Out [] H H2:=o1.trans m3
 let L8:List AV:=[.func (.func 125) [] [],.int .i64 2,.func (.func 126) [] [.ptr (H.next + 2) 0],.int .i64 5,.func (.func 127) [] [],.int .i64 1,.func (.func 128) [] [.ptr H.next 0],.int .i64 1]
 have hn2:H2.next=H.next + 2:=by rw [m4]
 have o3:=al_out H2 [.map (H.next + 1)] 197 0
 have o4:=al_out (al H2 [.map (H.next + 1)] 197 0) L8 tyS 0
 have hC4:=al_cs (al H2 [.map (H.next + 1)] 197 0) L8 tyS 0
 have ho4:Out [] H (al (al H2 [.map (H.next + 1)] 197 0) L8 tyS 0):=(o2.trans o3).trans o4
 have hnx4:(al (al H2 [.map (H.next + 1)] 197 0) L8 tyS 0).next=H.next + 4:=by rw [al_nx,al_nx,hn2]
 have hid4:(al H2 [.map (H.next + 1)] 197 0).next=H.next + 3:=by rw [al_nx,hn2]
 have hcd:∀ {H':Hp} {S:List Nat},Out S (al (al H2 [.map (H.next + 1)] 197 0) L8 tyS 0) H'→(∀ j∈S,j=H.next + 1)→cellAt H' H.next 0=some dx∧cellsAt H' H.next 0 1=some [dx]∧RD H' dx xs ts∧(∀ k:Nat,k < 4→∃ a b,L8[k * 2]? = some a∧L8[k * 2 + 1]? = some b∧cellsAt H' (H.next + 3) (k * 2) 2=some [a,b]):=by
  intro H' S ho hS
  have hne:∀ j,j < H.next + 4→j≠H.next + 1→∀ o,cellAt H' j o=cellAt (al (al H2 [.map (H.next + 1)] 197 0) L8 tyS 0) j o:=fun j hj hj2 o=>ho.cellAt (by rw [hnx4]; exact hj) fun q=>hj2 (hS j q)
  have h0:cellAt H' H.next 0=some dx:=by
   rw [hne _ (by omega) (by omega),cellAt_al_ne (by rw [hid4]; omega),cellAt_al_ne (by rw [hn2]; omega),m3.cellAt (by rw [al_nx]; omega) (by simp),cellAt_al rfl]; rfl
  refine ⟨h0,?_,(hR.out0 ho4).out ho fun j hj q=>by have:=hfl j hj; have:=hS j q; omega,fun k hk => ?_⟩
  ·unfold cellsAt cellsAt; rw [h0]; rfl
  ·have hL:L8.length=8:=rfl
   have ha:L8[k * 2]? = some (L8[k * 2]'(by rw [hL]; omega)):=List.getElem?_eq_getElem _
   have hb:L8[k * 2 + 1]? = some (L8[k * 2 + 1]'(by rw [hL]; omega)):=List.getElem?_eq_getElem _
   refine ⟨_,_,ha,hb,?_⟩
   unfold cellsAt cellsAt cellsAt
   rw [hne _ (by omega) (by omega),hne _ (by omega) (by omega),cellAt_al hid4.symm,cellAt_al hid4.symm,ha,hb]
   rfl
 have hm4:Mp (al (al H2 [.map (H.next + 1)] 197 0) L8 tyS 0) (H.next + 1) (hadM []) 0:=(m2.out o3 (by simp)).out o4 (by simp)
 have hq4:Cs (al (al H2 [.map (H.next + 1)] 197 0) L8 tyS 0) (H.next + 2) [.map (H.next + 1)] 197 0:=by
  have:=(al_cs H2 [.map (H.next + 1)] 197 0).out o4 (by simp)
  rw [hn2] at this; exact this
 have hstA:∀ (H':Hp) (a b:AV),oneC a=true→oneC b=true→st 2 (.ptr H'.next 0) (.agg [a,b]) (al H' [.nilFunc,.int .i64 0] tyS 0)=some (al H' [a,b] tyS 0):=fun H' a b ha hb=>st_alN (by simp [ha,hb]) rfl rfl (by decide) rfl
 have one:∀ (k:Nat) (z z':Int) (p:Nat→Bool) (e:Int) (fv:AV) (H':Hp) (H'':Hp),k < 4→z=(k:Nat)→z'=(k + 1:Nat)→L8[k * 2]? = some fv→L8[k * 2 + 1]? = some (.int .i64 e)→oneC fv=true→
   cellsAt H' H.next 0 1=some [dx]→H.next + 4≤H'.next→(∀ a b,L8[k * 2]? = some a→L8[k * 2 + 1]? = some b→cellsAt H' (H.next + 3) (k * 2) 2=some [a,b])→
   cK (.func (.func 130) [] []) [dv dx,fv] (al H' [fv,.int .i64 e] tyS 0)=some (.bool ((List.range ts.length).any p),H'')→Out [H.next + 1] (al H' [fv,.int .i64 e] tyS 0) H''→
   ∀ j35:K.Fn 1,l_def_Good JN GO cK j35 (.ptr H.next 0) (.slice (H.next + 3) 0 4 4 true 2) (.int .i64 4) (.int .i64 z) H'=if (List.range ts.length).any p then some (.int .i64 e,H'') else l_def_Good JN GO cK j35 (.ptr H.next 0) (.slice (H.next + 3) 0 4 4 true 2) (.int .i64 4) (.int .i64 z') H'':=by
  intro k z z' p e fv H' H'' hk hz hz' ha hb hfv hcx hHn hl hs hos j35
  subst hz; subst hz'
  have hll:=hl _ _ ha hb
  have hia:ia 2 (.slice (H.next + 3) 0 4 4 true 2) (.int .i64 (k:Nat))=some (.ptr (H.next + 3) (k * 2)):=by rw [ia_s hk]; simp
  have hlt:decide (((k:Nat):Int) < 4)=true:=decide_eq_true (by omega)
  have es:IntKind.wrap .i64 ((k:Int) + 1)=((k + 1:Nat):Int):=by rw [wrap_i64 (by omega) (by omega)]; rfl
  have hst:=hstA H' fv (.int .i64 e) hfv rfl
  have he:cellAt H'' H'.next 1=some (.int .i64 e):=by
   rw [hos.cellAt (by rw [al_nx]; omega) (by rw [List.mem_singleton]; omega),cellAt_al rfl]; rfl
  have hnc:newCells H' [.nilFunc,.int .i64 0] tyS 0=some (H'.next,al H' [.nilFunc,.int .i64 0] tyS 0):=newCells_al (by simp)
  rw [ql_def_Good]
  cases hany:(List.range ts.length).any p with
  | true=>
   rw [hany] at hs
   simp (disch:=(first | assumption | omega | (simp only [k_d,k_c,simprocAttr] <;> fail) | (simp only [k_c]; omega) | (simp only [k_d,k_c,simprocAttr, *] <;> fail) | fail)) only [bl_def_Good,hlt,hia,hll,hnc,hst,hcx,hs,he,if_true,k_a,k_b,k_s,k_x,simprocAttr]
  | false=>
   rw [hany] at hs
   simp (disch:=(first | assumption | omega | (simp only [k_d,k_c,simprocAttr] <;> fail) | (simp only [k_c]; omega) | (simp only [k_d,k_c,simprocAttr, *] <;> fail) | fail)) only [bl_def_Good,hlt,hia,hll,hnc,hst,hcx,hs,es,Bool.false_eq_true,if_false,k_a,k_b,k_s,k_x,simprocAttr]
 generalize hH4:al (al H2 [.map (H.next + 1)] 197 0) L8 tyS 0=H4 at *
 have mono1:∀ {A B:Hp},Out [] A B→Out [H.next + 1] A B:=fun h=>h.mono fun j hj=>by cases hj
 have hmS:∀ j∈([H.next + 1]:List Nat),j=H.next + 1:=fun j hj=>by rw [List.mem_singleton] at hj; exact hj
 obtain ⟨a1,a2,a3,a4⟩:=hcd (Out.refl [H.next + 1] H4) hmS
 have r1:=al_out H4 [.func (.func 125) [] [],.int .i64 2] tyS 0
 obtain ⟨H5,s1,s2⟩:=some_c (S:=[]) (fv := .func (.func 125) [] []) (p:=p1 ts) (fun _ _=>True) hn (by simp) tri (fun i t x H' ht hx hR' _=>by
  obtain ⟨H'',c1,c2⟩:=good1_c t x i H'
  have hp:p1 ts i=odd1 t:=by unfold p1; rw [ht]
  exact ⟨H'',by rw [hp]; exact c1,c2,fun _=>trivial⟩) (a3.out0 r1) trivial
 have g1:=one 0 0 1 (p1 ts) 2 _ H4 H5 (by omega) rfl rfl rfl rfl rfl a2 (by omega) (fun a b ha hb=>by obtain ⟨a',b',x1,x2,x3⟩:=a4 0 (by omega); rw [x1] at ha; rw [x2] at hb; cases ha; cases hb; exact x3) s1 (mono1 s2)
 have t5:Out [H.next + 1] H4 H5:=mono1 (r1.trans s2)
 obtain ⟨b1,b2,b3,b4⟩:=hcd t5 hmS
 have n5:=t5.nx
 have r2:=al_out H5 [.func (.func 126) [] [.ptr (H.next + 2) 0],.int .i64 5] tyS 0
 have hHI:HadI (H.next + 1) (H.next + 2) ts 0 (al H5 [.func (.func 126) [] [.ptr (H.next + 2) 0],.int .i64 5] tyS 0):=
  ⟨197,[],0,((hq4.out (r1.trans s2) (by simp)).out r2 (by simp)),(hm4.out (r1.trans s2) (by simp)).out r2 (by simp),by rw [List.take_zero]; rfl,by omega,List.nodup_nil⟩
 have hfm:∀ j∈fpD dx xs,j∉([H.next + 1]:List Nat):=fun j hj=>by rw [List.mem_singleton]; have:=hfl j hj; omega
 obtain ⟨H6,u1,u2⟩:=some_c (S:=[H.next + 1]) (fv := .func (.func 126) [] [.ptr (H.next + 2) 0]) (p:=dup ts) (HadI (H.next + 1) (H.next + 2) ts) hn hfm (fun i A B hA hAB=>by
  obtain ⟨el,l,c,x1,x2,x3,x4⟩:=hA
  exact ⟨el,l,c,x1.out hAB (by simp),x2.out hAB (by simp),x3,x4⟩) (fun i t x H' ht hx hR' hI=>good2_c hI ht) (b3.out0 r2) hHI
 have g2:=one 1 1 2 (dup ts) 5 _ H5 H6 (by omega) rfl rfl rfl rfl rfl b2 (by omega) (fun a b ha hb=>by obtain ⟨a',b',x1,x2,x3⟩:=b4 1 (by omega); rw [x1] at ha; rw [x2] at hb; cases ha; cases hb; exact x3) u1 u2
 have t6:Out [H.next + 1] H4 H6:=t5.trans ((mono1 r2).trans u2)
 obtain ⟨c1,c2,c3,c4⟩:=hcd t6 hmS
 have n6:=t6.nx
 have r3:=al_out H6 [.func (.func 127) [] [],.int .i64 1] tyS 0
 obtain ⟨H7,v1,v2⟩:=some_c (S:=[]) (fv := .func (.func 127) [] []) (p:=p3 ts) (fun _ _=>True) hn (by simp) tri (fun i t x H' ht hx hR' _=>by
  obtain ⟨H'',c1,c2⟩:=good3_c t x i H'
  have hp:p3 ts i=odd3 t:=by unfold p3; rw [ht]
  exact ⟨H'',by rw [hp]; exact c1,c2,fun _=>trivial⟩) (c3.out0 r3) trivial
 have g3:=one 2 2 3 (p3 ts) 1 _ H6 H7 (by omega) rfl rfl rfl rfl rfl c2 (by omega) (fun a b ha hb=>by obtain ⟨a',b',x1,x2,x3⟩:=c4 2 (by omega); rw [x1] at ha; rw [x2] at hb; cases ha; cases hb; exact x3) v1 (mono1 v2)
 have t7:Out [H.next + 1] H4 H7:=t6.trans (mono1 (r3.trans v2))
 obtain ⟨d1,d2,d3,d4⟩:=hcd t7 hmS
 have n7:=t7.nx
 have r4:=al_out H7 [.func (.func 128) [] [.ptr H.next 0],.int .i64 1] tyS 0
 obtain ⟨H8,w1,w2⟩:=some_c (S:=[]) (fv := .func (.func 128) [] [.ptr H.next 0]) (p:=p4 ts) (fun _ H'=>cellAt H' H.next 0=some dx∧H.next < H'.next) hn (by simp) (fun i A B hA hAB=>⟨by rw [hAB.cellAt hA.2 (by simp)]; exact hA.1,by have:=hAB.nx; omega⟩) (fun i t x H' ht hx hR' hI=>by
  obtain ⟨x',bb,oo,y1,y2,y3,_⟩:=hR'.at ht
  rw [hx] at y1
  cases y1
  obtain ⟨H'',c1,c2⟩:=good4_c (i:=(i:Int)) (n:=ts.length) hn (hal t (List.mem_of_getElem? ht)) hdl hd1 hI.1 hI.2 y3
  have hp:p4 ts i = !aftG ts.length i [] t.after:=by unfold p4; rw [ht]
  exact ⟨H'',by rw [hp]; exact c1,c2,fun _=>⟨by rw [c2.cellAt hI.2 (by simp)]; exact hI.1,by have:=c2.nx; omega⟩⟩) (d3.out0 r4) ⟨by rw [r4.cellAt (by omega) (by simp)]; exact d1,by rw [al_nx]; omega⟩
 have g4:=one 3 3 4 (p4 ts) 1 _ H7 H8 (by omega) rfl rfl rfl rfl rfl d2 (by omega) (fun a b ha hb=>by obtain ⟨a',b',x1,x2,x3⟩:=d4 3 (by omega); rw [x1] at ha; rw [x2] at hb; cases ha; cases hb; exact x3) w1 (mono1 w2)
 have t8:Out [H.next + 1] H4 H8:=t7.trans (mono1 (r4.trans w2))
 obtain ⟨e1,e2,e3,e4⟩:=hcd t8 hmS
 have fin:∀ {B:Hp},Out [H.next + 1] H4 B→Out [] H B:=fun h=>ho4.then h fun j hj=>by rw [List.mem_singleton] at hj; exact .inr (by omega)
 have g5:∀ j35:K.Fn 1,l_def_Good JN GO cK j35 (.ptr H.next 0) (.slice (H.next + 3) 0 4 4 true 2) (.int .i64 4) (.int .i64 4) H8=j35 (.ptr H.next 0) H8:=fun j35=>by
  have d:decide ((4:Int) < 4)=false:=rfl
  rw [ql_def_Good]
  simp only [bl_def_Good,d,k_s,k_x,simprocAttr]
 have hst0:st 1 (.ptr (H.next + 2) 0) (.map (H.next + 1)) (al H2 [.map0] 197 0)=some (al H2 [.map (H.next + 1)] 197 0):=st_al1 rfl (by rw [hn2]) (by decide) (by simp)
 have hnc:newCells (al H2 [.map (H.next + 1)] 197 0) L8 tyS 0=some (H.next + 3,H4):=by rw [← hH4,newCells_al (by show 8≤_; omega),hid4]
 have hf8:fl [.nilFunc,(.int .i64 0),.nilFunc,(.int .i64 0),.nilFunc,(.int .i64 0),.nilFunc,(.int .i64 0)] [(0,2,(.agg [.func (.func 125) [] [],.int .i64 2])),(2,2,(.agg [.func (.func 126) [] [.ptr (H.next + 2) 0],.int .i64 5])),(4,2,(.agg [.func (.func 127) [] [],.int .i64 1])),(6,2,(.agg [.func (.func 128) [] [.ptr H.next 0],.int .i64 1]))]=some L8:=rfl
 have hgm:goodM ts=if (List.range ts.length).any (p1 ts) then 2 else if (List.range ts.length).any (dup ts) then 5 else if (List.range ts.length).any (p3 ts) then 1 else if (List.range ts.length).any (p4 ts) then 1 else if noCyc ts.length (edFrom 0 ts) then 0 else 7:=by unfold goodM; rw [if_neg hr']
 rw [hgm]
 have hH2m:mk0 (al H [dx] 59 0)=some (H.next + 1,H2):=m1
 have h44:((4:Nat):Int)=4:=rfl
 have hid3:H.next + 2 + 1=H.next + 3:=rfl
 have hH4':al (al H2 [.map (H.next + 1)] 197 0) [.func (.func 125) [] [],.int .i64 2,.func (.func 126) [] [.ptr (H.next + 2) 0],.int .i64 5,.func (.func 127) [] [],.int .i64 1,.func (.func 128) [] [.ptr H.next 0],.int .i64 1] tyS 0=H4:=hH4
 have hlen4:lenx (.slice (H.next + 3) 0 4 4 true 2)=some (.int .i64 4):=rfl
 have hH2n:H2.next=H.next + 2:=hn2
 cases q1:(List.range ts.length).any (p1 ts) with
 | true=>
  simp only [q1,if_true] at g1
  refine ⟨H5,c_def_Good ?_,fin t5⟩
  unfold s_def_Good
  simp (disch:=(first | assumption | omega | (simp only [k_d,k_c,simprocAttr] <;> fail) | (simp only [k_c]; omega) | (simp only [k_d,k_c,simprocAttr, *] <;> fail) | fail)) only [hdl,din_c,d,hH2m,hH2n,hst0,hf8,h44,hid3,hH4',g1,if_true,k_a,k_b,k_s,k_x,simprocAttr]
 | false=>
 cases q2:(List.range ts.length).any (dup ts) with
 | true=>
  simp only [q1,Bool.false_eq_true,if_false] at g1
  simp only [q2,if_true] at g2
  refine ⟨H6,c_def_Good ?_,fin t6⟩
  unfold s_def_Good
  simp (disch:=(first | assumption | omega | (simp only [k_d,k_c,simprocAttr] <;> fail) | (simp only [k_c]; omega) | (simp only [k_d,k_c,simprocAttr, *] <;> fail) | fail)) only [hdl,din_c,d,hH2m,hH2n,hst0,hf8,h44,hid3,hH4',g1,g2,if_true,Bool.false_eq_true,if_false,k_a,k_b,k_s,k_x,simprocAttr]
 | false=>
 cases q3:(List.range ts.length).any (p3 ts) with
 | true=>
  simp only [q1,Bool.false_eq_true,if_false] at g1
  simp only [q2,Bool.false_eq_true,if_false] at g2
  simp only [q3,if_true] at g3
  refine ⟨H7,c_def_Good ?_,fin t7⟩
  unfold s_def_Good
  simp (disch:=(first | assumption | omega | (simp only [k_d,k_c,simprocAttr] <;> fail) | (simp only [k_c]; omega) | (simp only [k_d,k_c,simprocAttr, *] <;> fail) | fail)) only [hdl,din_c,d,hH2m,hH2n,hst0,hf8,h44,hid3,hH4',g1,g2,g3,if_true,Bool.false_eq_true,if_false,k_a,k_b,k_s,k_x,simprocAttr]
 | false=>
 cases q4:(List.range ts.length).any (p4 ts) with
 | true=>
  simp only [q1,Bool.false_eq_true,if_false] at g1
  simp only [q2,Bool.false_eq_true,if_false] at g2
  simp only [q3,Bool.false_eq_true,if_false] at g3
  simp only [q4,if_true] at g4
  refine ⟨H8,c_def_Good ?_,fin t8⟩
  unfold s_def_Good
  simp (disch:=(first | assumption | omega | (simp only [k_d,k_c,simprocAttr] <;> fail) | (simp only [k_c]; omega) | (simp only [k_d,k_c,simprocAttr, *] <;> fail) | fail)) only [hdl,din_c,d,hH2m,hH2n,hst0,hf8,h44,hid3,hH4',g1,g2,g3,g4,if_true,Bool.false_eq_true,if_false,k_a,k_b,k_s,k_x,simprocAttr]
 | false=>
  simp only [q1,Bool.false_eq_true,if_false] at g1
  simp only [q2,Bool.false_eq_true,if_false] at g2
  simp only [q3,Bool.false_eq_true,if_false] at g3
  simp only [q4,Bool.false_eq_true,if_false] at g4
  have haft:=any_p4 q4
  have hal2:∀ t∈ts,t.after.length≤16:=fun t ht=>by
   obtain ⟨i,hi⟩:=List.getElem?_of_mem ht
   obtain ⟨x1,x2⟩:=aft_all haft hi
   have:=nodup_le (n:=ts.length) (fun a h=>⟨(x1 a h).1,(x1 a h).2.1⟩) x2
   omega
  obtain ⟨ex,H9,y1,y2,y3,y4⟩:=graph_c hr.2 hal2 haft e3
  obtain ⟨cy,kk,H10,z1,z2,z3,z4⟩:=cycle_c (goodE_of hr.2 haft) y2
  refine ⟨H10,c_def_Good ?_,(fin t8).trans (y3.trans z4)⟩
  by_cases hk:kk=0
  ·have hcyc:=z3.1 hk
   rw [if_pos hcyc]
   have dk:decide ((0:Int) < ((kk:Nat):Int))=false:=decide_eq_false (by omega)
   unfold s_def_Good
   simp (disch:=(first | assumption | omega | (simp only [k_d,k_c,simprocAttr] <;> fail) | (simp only [k_c]; omega) | (simp only [k_d,k_c,simprocAttr, *] <;> fail) | fail)) only [hdl,din_c,d,hH2m,hH2n,hst0,hf8,h44,hid3,hH4',g1,g2,g3,g4,g5,e2,y1,z1,z2,dk,Bool.false_eq_true,if_false,k_a,k_b,k_s,k_x,simprocAttr]
  ·have hcyc:¬ noCyc ts.length (edFrom 0 ts):=fun q=>hk (z3.2 q)
   rw [if_neg hcyc]
   have dk:decide ((0:Int) < ((kk:Nat):Int))=true:=decide_eq_true (by omega)
   unfold s_def_Good
   simp (disch:=(first | assumption | omega | (simp only [k_d,k_c,simprocAttr] <;> fail) | (simp only [k_c]; omega) | (simp only [k_d,k_c,simprocAttr, *] <;> fail) | fail)) only [hdl,din_c,d,hH2m,hH2n,hst0,hf8,h44,hid3,hH4',g1,g2,g3,g4,g5,e2,y1,z1,z2,dk,Bool.false_eq_true,if_false,k_a,k_b,k_s,k_x,simprocAttr]
def placesM (names:List Str):List Str→Option (List Int)
 | []=>some []
 | s::r=>match names.findIdx? (fun a=>s == a) with
  | some i=>(placesM names r).map fun l=>(i:Int)::l
  | none=>none
abbrev kAfter:Str:=[97,102,116,101,114]
abbrev kRetry:Str:=[114,101,116,114,121]
abbrev kWait:Str:=[119,97,105,116]
abbrev kBase:Str:=[98,97,115,101]
abbrev kOn:Str:=[111,110]
noncomputable def setM (t:Tk) (key value:Str) (names:List Str):Option Tk:=
 if key=kAfter then (placesM names (spl 44 value)).map fun l=>{ t with after:=t.after++l }
 else if key=kRetry then (numM value).map fun (n:Nat)=>{ t with retry:=n }
 else if key=kWait then (numM value).map fun (n:Nat)=>{ t with wait:=n }
 else if key=kBase then (numM value).map fun (n:Nat)=>{ t with base:=n }
 else if key=kOn then (if value=[] then none else some { t with on:=value })
 else (numM value).map fun _=>t
structure TO (H:Hp) (p:Nat) (t:Tk) (x:AV):Prop where
 c:Cs H p (tkC t x) 107 0
 o:Ow H 3 1 x (ints t.after)
 ne:p∉rid x
theorem TO.out0 {H H':Hp} {p:Nat} {t:Tk} {x:AV} (h:TO H p t x) (k:Out [] H H'):TO H' p t x:=⟨h.c.out k (by simp),h.o.out k (by simp),h.ne⟩
theorem TO.st {H:Hp} {p:Nat} {t:Tk} {x:AV} (h:TO H p t x) (o:Nat) (ho:o < 6) (v:AV) (hv:oneC v=true) (t':Tk) (ht:(tkC t x).set o v=tkC t' x) (ha:t'.after=t.after) :
  ∃ H',st 1 (.ptr p o) v H=some H'∧TO H' p t' x∧Out [p] H H':=by
 obtain ⟨H',w1,w2,w3,w4⟩:=st1 h.c (by decide) (o:=o) (by rw [tk_len]; exact ho) hv
 rw [ht] at w2
 exact ⟨H',w1,⟨w2,by rw [ha]; exact h.o.out w3 fun j hj=>by rw [List.mem_singleton]; intro e; subst e; exact h.ne hj,h.ne⟩,w3⟩
theorem set_loop {names:List Str} {nx sx:AV} {p:Nat} {parts:List Str} (hnn:names.length≤100000) (hpl:parts.length≤100000):∀ (r:List Str) (i:Nat) (H:Hp) (t:Tk) (x:AV),i≤parts.length→parts.drop i=r→Rw H 1 nx (strs names)→Rw H 1 sx (strs parts)→TO H p t x→(∀ j,j∈rid nx∨j∈rid sx→j≠p∧j∉rid x)→t.after.length + r.length≤200000→
  ∃ H',Out (p::rid x) H H'∧((∃ l x',placesM names r=some l∧(∀ (j13:K.Fn 1) (j19:K.Fn 0),l_def_Task_set JN GO cK j13 j19 (.ptr p 0) nx sx (.int .i64 (parts.length:Nat)) (.int .i64 (i:Nat)) H=j19 H')∧TO H' p { t with after:=t.after++l } x'∧∀ j∈rid x',j∈rid x∨H.next≤j)∨
   (placesM names r=none∧∀ (j13:K.Fn 1) (j19:K.Fn 0),l_def_Task_set JN GO cK j13 j19 (.ptr p 0) nx sx (.int .i64 (parts.length:Nat)) (.int .i64 (i:Nat)) H=some (.bool false,H')))
 | [],i,H,t,x,hi,h,hnx,hsx,hT,hd,hal=>by
  obtain rfl:=drop_nil hi h
  refine ⟨H,Out.refl _ _,.inl ⟨[],x,rfl,fun j13 j19 => ?_,by simpa using hT,fun j hj => .inl hj⟩⟩
  rw [ql_def_Task_set]
  simp only [bl_def_Task_set,lt_f,k_s,k_x,simprocAttr]
 | s::r,i,H,t,x,hi,h,hnx,hsx,hT,hd,hal=>by
  obtain ⟨h1,h2,h3⟩:=hd_drop h
  obtain ⟨q,q1,q2⟩:=hsx.ia1 (strs_get h2) .i64
  have es:=wrap_s h1 (by omega)
  have hidx:=indexstring_c hnx (by omega) s
  simp only [List.length_cons] at hal
  unfold placesM
  cases hf:names.findIdx? (fun a=>s == a) with
  | none=>
   rw [hf] at hidx
   have d:decide (ixo none < 0)=true:=rfl
   refine ⟨H,Out.refl _ _,.inr ⟨rfl,fun j13 j19 => ?_⟩⟩
   rw [ql_def_Task_set]
   simp (disch:=(first | assumption | omega | (simp only [k_d,k_c,simprocAttr] <;> fail) | (simp only [k_c]; omega) | (simp only [k_d,k_c,simprocAttr, *] <;> fail) | fail)) only [bl_def_Task_set,lt_t h1,q1,q2,hidx,d,k_a,k_b,k_s,k_x,simprocAttr]
  | some m=>
   rw [hf] at hidx
   have d:decide (ixo (some m) < 0)=false:=decide_eq_false (by show ¬ ((m:Int) < 0); omega)
   have hix:ixo (some m)=(m:Int):=rfl
   rw [hix] at hidx d
   have hcx:cellAt H p 1=some x:=hT.c.cellAt rfl
   have hpl':=hT.c.1
   obtain ⟨x1,H1,p1,p2,p3,p4,p5⟩:=push_ok (el2:=3) (z:=[(.int .i64 0)]) (vs:=[.int .i64 (m:Int)]) hT.o rfl rfl (by decide) (by rw [ints_len]; simp; omega)
   have hp2:ints t.after++[.int .i64 (m:Int)]=ints (t.after++[(m:Int)]):=by rw [ints_app]; rfl
   rw [hp2] at p2
   have hc1:=hT.c.out p3 hT.ne
   obtain ⟨H2,w1,w2,w3,w4⟩:=st1 hc1 (by decide) (o:=1) (by rw [tk_len]; omega) (v:=x1) p5
   have hset:(tkC t x).set 1 x1=tkC { t with after:=t.after++[(m:Int)] } x1:=rfl
   rw [hset] at w2
   have hn1:=p3.nx
   have hne1:p∉rid x1:=fun z=>(p4 p z).elim hT.ne fun z=>by omega
   have hT2:TO H2 p { t with after:=t.after++[(m:Int)] } x1:=⟨w2,p2.out w3 fun j hj=>by rw [List.mem_singleton]; intro e; subst e; exact hne1 hj,hne1⟩
   have o2:Out (p::rid x) H H2:=(p3.mono fun j hj => .tail _ hj).trans (w3.mono fun j hj=>by rw [List.mem_singleton] at hj; subst hj; exact .head _)
   have hnl:=hnx.lt
   have hsl:=hsx.lt
   have hd2:∀ j,j∈rid nx∨j∈rid sx→j≠p∧j∉rid x1:=fun j hj=>⟨(hd j hj).1,fun z=>(p4 j z).elim (hd j hj).2 fun y=>by have:=hj.elim (hnl j) (hsl j); omega⟩
   obtain ⟨H',i1,i2⟩:=set_loop (p:=p) hnn hpl r (i + 1) H2 { t with after:=t.after++[(m:Int)] } x1 h1 h3 (hnx.out o2 fun j hj=>by rw [List.mem_cons,not_or]; exact hd j (.inl hj)) (hsx.out o2 fun j hj=>by rw [List.mem_cons,not_or]; exact hd j (.inr hj)) hT2 hd2 (by simp; omega)
   have key:∀ j∈rid x1,j∈rid x∨H.next≤j:=fun j hj=>(p4 j hj).imp id fun z=>by omega
   have hn2:=o2.nx
   have oo:Out (p::rid x) H H':=o2.then i1 fun j hj=>by
    rcases List.mem_cons.1 hj with rfl | hj
    ·exact .inl (.head _)
    ·exact (key j hj).imp (fun z => .tail _ z) id
   have p1':=p1 _ rfl
   refine ⟨H',oo,?_⟩
   rcases i2 with ⟨l,x',k1,k2,k3,k4⟩ | ⟨k1,k2⟩
   ·refine .inl ⟨(m:Int)::l,x',by simp [k1],fun j13 j19 => ?_,by simpa [List.append_assoc] using k3,fun j hj=>(k4 j hj).elim (key j) fun z => .inr (by omega)⟩
    rw [ql_def_Task_set]
    simp (disch:=(first | assumption | omega | (simp only [k_d,k_c,simprocAttr] <;> fail) | (simp only [k_c]; omega) | (simp only [k_d,k_c,simprocAttr, *] <;> fail) | fail)) only [bl_def_Task_set,lt_t h1,q1,q2,hidx,d,hcx,p1',w1,es,k2,k_a,k_b,k_s,k_x,simprocAttr]
   ·refine .inr ⟨by simp [k1],fun j13 j19 => ?_⟩
    rw [ql_def_Task_set]
    simp (disch:=(first | assumption | omega | (simp only [k_d,k_c,simprocAttr] <;> fail) | (simp only [k_c]; omega) | (simp only [k_d,k_c,simprocAttr, *] <;> fail) | fail)) only [bl_def_Task_set,lt_t h1,q1,q2,hidx,d,hcx,p1',w1,es,k2,k_a,k_b,k_s,k_x,simprocAttr]
theorem str_ne {a b:Str} (h:a≠b):(a == b)=false:=beq_false_of_ne h
theorem set_c {names:List Str} {nx:AV} {p:Nat} {key value:Str} {t:Tk} {x:AV} {H:Hp} (hg:Gl H) (hnn:names.length≤100000) (hv:value.length≤90000) (hnx:Rw H 1 nx (strs names)) (hT:TO H p t x) (hd:∀ j,j∈rid nx→j≠p∧j∉rid x) (hal:t.after.length≤10000) :
  ∃ ok H',cK (.func (.func 123) [] []) [.ptr p 0,.str key,.str value,nx] H=some (.bool ok,H')∧Out (p::rid x) H H'∧(ok=true→∃ t' x',setM t key value names=some t'∧TO H' p t' x'∧∀ j∈rid x',j∈rid x∨H.next≤j)∧(ok=false→setM t key value names=none):=by
 obtain ⟨n,okn,H1,n1,n2,n3,n4⟩:=number_c (s:=value) hg
 have hT1:=hT.out0 n4
 have hp1:=hT1.c.1
 have hnx1:=hnx.out0 n4
 have hn1:=n4.nx
 have mono1:∀ {S:List Nat} {A B:Hp},Out [] A B→Out S A B:=fun h=>h.mono fun j hj=>by cases hj
 have num:∀ (o:Nat) (f:Nat→Tk),o < 6→(∀ m:Nat,(tkC t x).set o (.int .i64 (m:Int))=tkC (f m) x)→(∀ m,(f m).after=t.after)→setM t key value names=(numM value).map f→
   (∀ H2,st 1 (.ptr p o) (.int .i64 n) H1=some H2→s_def_Task_set JN GO cK (.ptr p 0) (.str key) (.str value) nx H=some (.bool okn,H2))→∃ ok H',cK (.func (.func 123) [] []) [.ptr p 0,.str key,.str value,nx] H=some (.bool ok,H')∧Out (p::rid x) H H'∧(ok=true→∃ t' x',setM t key value names=some t'∧TO H' p t' x'∧∀ j∈rid x',j∈rid x∨H.next≤j)∧(ok=false→setM t key value names=none):=by
  intro o f ho hf hfa hm hrun
  cases okn with
  | true=>
   obtain ⟨m,rfl⟩:∃ m:Nat,n=m:=⟨n.toNat,by have:=n3 rfl; omega⟩
   obtain ⟨H2,w1,w2,w3⟩:=hT1.st o ho (.int .i64 (m:Int)) rfl (f m) (hf m) (hfa m)
   refine ⟨true,H2,c_def_Task_set (hrun H2 w1),(mono1 n4).trans (w3.mono fun j hj=>by rw [List.mem_singleton] at hj; subst hj; exact .head _),fun _=>⟨f m,x,?_,w2,fun j hj => .inl hj⟩,fun q=>by cases q⟩
   rw [hm,n2,if_pos rfl,Int.toNat_natCast]; rfl
  | false=>
   obtain ⟨H2,w1,w2,w3,w4⟩:=st1 hT1.c (by decide) (o:=o) (by rw [tk_len]; exact ho) (v := .int .i64 n) rfl
   refine ⟨false,H2,c_def_Task_set (hrun H2 w1),(mono1 n4).trans (w3.mono fun j hj=>by rw [List.mem_singleton] at hj; subst hj; exact .head _),fun q=>(by cases q),fun _ => ?_⟩
   rw [hm,n2]; rfl
 by_cases k1:key=kAfter
 ·subst k1
  obtain ⟨sx,H2,s1,s2,s3,s4⟩:=split_c (c:=44) (by decide) (s:=value) (by omega) H1
  have hsl:=s2.len1
  rw [strs_len] at hsl
  have hpl:(spl 44 value).length≤90001:=by rw [spl_len]; have:=cnt_le 44 value; omega
  have hT2:=hT1.out0 s3
  have hnr:=hnx.lt
  have hxr:=hT.o.rw.lt
  have hpH:=hT.c.1
  obtain ⟨H',i1,i2⟩:=set_loop (p:=p) hnn (by omega) (spl 44 value) 0 H2 t x (Nat.zero_le _) List.drop_zero (hnx1.out0 s3) s2 hT2 (fun j hj=>hj.elim (hd j) fun z=>⟨by have:=s4 j z; omega,fun y=>by have:=s4 j z; have:=hxr j y; omega⟩) (by omega)
  have hm:setM t kAfter value names=(placesM names (spl 44 value)).map fun l=>{ t with after:=t.after++l }:=by unfold setM; rw [if_pos rfl]
  have oo:Out (p::rid x) H H':=(mono1 (n4.trans s3)).trans i1
  have hn2:=(n4.trans s3).nx
  have e:(kAfter == kAfter)=true:=rfl
  rcases i2 with ⟨l,x',q1,q2,q3,q4⟩ | ⟨q1,q2⟩
  ·rw [show (((0:Nat):Int))=0 from rfl] at q2
   refine ⟨true,H',c_def_Task_set ?_,oo,fun _=>⟨_,x',by rw [hm,q1]; rfl,q3,fun j hj=>(q4 j hj).imp id fun z=>by omega⟩,fun q=>by cases q⟩
   unfold s_def_Task_set
   simp (disch:=(first | assumption | omega | (simp only [k_d,k_c,simprocAttr] <;> fail) | (simp only [k_c]; omega) | (simp only [k_d,k_c,simprocAttr, *] <;> fail) | fail)) only [n1,e,s1,hsl,q2,k_a,k_b,k_s,k_x,simprocAttr]
  ·rw [show (((0:Nat):Int))=0 from rfl] at q2
   refine ⟨false,H',c_def_Task_set ?_,oo,fun q=>(by cases q),fun _=>by rw [hm,q1]; rfl⟩
   unfold s_def_Task_set
   simp (disch:=(first | assumption | omega | (simp only [k_d,k_c,simprocAttr] <;> fail) | (simp only [k_c]; omega) | (simp only [k_d,k_c,simprocAttr, *] <;> fail) | fail)) only [n1,e,s1,hsl,q2,k_a,k_b,k_s,k_x,simprocAttr]
 have e1:=str_ne k1
 by_cases k2:key=kRetry
 ·subst k2
  have e2:(kRetry == kRetry)=true:=rfl
  refine num 2 (fun m=>{ t with retry:=(m:Int) }) (by omega) (fun m=>rfl) (fun m=>rfl) (by unfold setM; rw [if_neg k1,if_pos rfl]) fun H2 hst => ?_
  unfold s_def_Task_set
  simp (disch:=(first | assumption | omega | (simp only [k_d,k_c,simprocAttr] <;> fail) | (simp only [k_c]; omega) | (simp only [k_d,k_c,simprocAttr, *] <;> fail) | fail)) only [n1,e1,e2,hst,k_a,k_b,k_s,k_x,simprocAttr]
 have e2:=str_ne k2
 by_cases k3:key=kWait
 ·subst k3
  have e3:(kWait == kWait)=true:=rfl
  refine num 3 (fun m=>{ t with wait:=(m:Int) }) (by omega) (fun m=>rfl) (fun m=>rfl) (by unfold setM; rw [if_neg k1,if_neg k2,if_pos rfl]) fun H2 hst => ?_
  unfold s_def_Task_set
  simp (disch:=(first | assumption | omega | (simp only [k_d,k_c,simprocAttr] <;> fail) | (simp only [k_c]; omega) | (simp only [k_d,k_c,simprocAttr, *] <;> fail) | fail)) only [n1,e1,e2,e3,hst,k_a,k_b,k_s,k_x,simprocAttr]
 have e3:=str_ne k3
 by_cases k4:key=kBase
 ·subst k4
  have e4:(kBase == kBase)=true:=rfl
  refine num 4 (fun m=>{ t with base:=(m:Int) }) (by omega) (fun m=>rfl) (fun m=>rfl) (by unfold setM; rw [if_neg k1,if_neg k2,if_neg k3,if_pos rfl]) fun H2 hst => ?_
  unfold s_def_Task_set
  simp (disch:=(first | assumption | omega | (simp only [k_d,k_c,simprocAttr] <;> fail) | (simp only [k_c]; omega) | (simp only [k_d,k_c,simprocAttr, *] <;> fail) | fail)) only [n1,e1,e2,e3,e4,hst,k_a,k_b,k_s,k_x,simprocAttr]
 have e4:=str_ne k4
 by_cases k5:key=kOn
 ·subst k5
  have e5:(kOn == kOn)=true:=rfl
  obtain ⟨H2,w1,w2,w3⟩:=hT1.st 5 (by omega) (.str value) rfl { t with on:=value } rfl rfl
  have oo:Out (p::rid x) H H2:=(mono1 n4).trans (w3.mono fun j hj=>by rw [List.mem_singleton] at hj; subst hj; exact .head _)
  have hm:setM t kOn value names=if value=[] then none else some { t with on:=value }:=by unfold setM; rw [if_neg k1,if_neg k2,if_neg k3,if_neg k4,if_pos rfl]
  by_cases hv0:value=[]
  ·have e6:(value == [])=true:=by rw [hv0]; rfl
   refine ⟨false,H2,c_def_Task_set ?_,oo,fun q=>(by cases q),fun _=>by rw [hm,if_pos hv0]⟩
   unfold s_def_Task_set
   simp (disch:=(first | assumption | omega | (simp only [k_d,k_c,simprocAttr] <;> fail) | (simp only [k_c]; omega) | (simp only [k_d,k_c,simprocAttr, *] <;> fail) | fail)) only [n1,e1,e2,e3,e4,e5,e6,w1,k_a,k_b,k_s,k_x,simprocAttr]
  ·have e6:(value == [])=false:=beq_false_of_ne hv0
   refine ⟨true,H2,c_def_Task_set ?_,oo,fun _=>⟨_,x,by rw [hm,if_neg hv0],w2,fun j hj => .inl hj⟩,fun q=>by cases q⟩
   unfold s_def_Task_set
   simp (disch:=(first | assumption | omega | (simp only [k_d,k_c,simprocAttr] <;> fail) | (simp only [k_c]; omega) | (simp only [k_d,k_c,simprocAttr, *] <;> fail) | fail)) only [n1,e1,e2,e3,e4,e5,e6,w1,k_a,k_b,k_s,k_x,simprocAttr]
 ·have e5:=str_ne k5
  have hm:setM t key value names=(numM value).map fun _=>t:=by unfold setM; rw [if_neg k1,if_neg k2,if_neg k3,if_neg k4,if_neg k5]
  refine ⟨okn,H1,c_def_Task_set ?_,mono1 n4,fun q=>⟨t,x,?_,hT1,fun j hj => .inl hj⟩,fun q => ?_⟩
  ·unfold s_def_Task_set
   simp (disch:=(first | assumption | omega | (simp only [k_d,k_c,simprocAttr] <;> fail) | (simp only [k_c]; omega) | (simp only [k_d,k_c,simprocAttr, *] <;> fail) | fail)) only [n1,e1,e2,e3,e4,e5,k_a,k_b,k_s,k_x,simprocAttr]
  ·rw [hm,n2,if_pos q]; rfl
  ·rw [hm,n2,q]; rfl
noncomputable def tkM (names:List Str):List Str→Tk→List Str→Option Tk
 | [],t,_=>some t
 | s::r,t,ks=>match ks.findIdx? (fun a=>(cut 61 s).1 == a) with
  | none=>none
  | some m=>if (cut 61 s).1.length=s.length then none else match setM t (cut 61 s).1 (cut 61 s).2.1 names with
   | none=>none
   | some t'=>tkM names r t' (ks.drop (m + 1))
theorem cut_len (c:Nat) (s:Str):(cut c s).1.length≤s.length∧(cut c s).2.1.length≤s.length:=by
 unfold cut
 split
 ·exact ⟨by rw [List.length_take]; exact Nat.min_le_right _ _,by rw [List.length_drop]; exact Nat.sub_le _ _⟩
 ·exact ⟨Nat.le_refl _,Nat.zero_le _⟩
theorem placesM_len {names:List Str}:∀ {r:List Str} {l:List Int},placesM names r=some l→l.length=r.length
 | [],l,h=>by cases h; rfl
 | s::r,l,h=>by
  unfold placesM at h
  split at h
  ·rw [Option.map_eq_some_iff] at h
   obtain ⟨l',h1,rfl⟩:=h
   simp [placesM_len h1]
  ·cases h
theorem setM_len {t t':Tk} {key value:Str} {names:List Str} (h:setM t key value names=some t'):t'.after.length≤t.after.length + value.length + 1:=by
 unfold setM at h
 split at h
 ·rw [Option.map_eq_some_iff] at h
  obtain ⟨l,h1,rfl⟩:=h
  have:=placesM_len h1
  rw [spl_len] at this
  have:=cnt_le 44 value
  simp only [List.length_append]; omega
 ·split at h
  ·rw [Option.map_eq_some_iff] at h; obtain ⟨m,_,rfl⟩:=h; simp only; omega
  ·split at h
   ·rw [Option.map_eq_some_iff] at h; obtain ⟨m,_,rfl⟩:=h; simp only; omega
   ·split at h
    ·rw [Option.map_eq_some_iff] at h; obtain ⟨m,_,rfl⟩:=h; simp only; omega
    ·split at h
     ·split at h
      ·cases h
      ·cases h; simp only; omega
     ·rw [Option.map_eq_some_iff] at h; obtain ⟨m,_,rfl⟩:=h; omega
theorem find_lt {α:Type} {p:α→Bool}:∀ {l:List α} {m:Nat},l.findIdx? p=some m→m < l.length
 | [],m,h=>by cases h
 | a::l,m,h=>by
  rw [List.findIdx?_cons] at h
  split at h
  ·cases h; simp
  ·rw [Option.map_eq_some_iff] at h
   obtain ⟨k,h1,rfl⟩:=h
   have:=find_lt h1
   simp only [List.length_cons]; omega
theorem task_loop {names w:List Str} {nx wx:AV} {p q:Nat} (hnn:names.length≤100000) (hwl:w.length≤100000) (hws:∀ s∈w,s.length≤80000) (hpq:p≠q):∀ (r:List Str) (i:Nat) (H:Hp) (t:Tk) (x kx:AV) (ks:List Str),i≤w.length→w.drop i=r→Gl H→11≤p→(∀ j∈rid x,11≤j)→Rw H 1 nx (strs names)→Rw H 1 wx (strs w)→Rw H 1 kx (strs ks)→ks.length≤10→TO H p t x→(∀ j,j∈rid nx∨j∈rid wx∨j∈rid kx→j≠p∧j∉rid x)→t.after.length + sumL r + r.length≤10000→
  ∃ H',Out (p::rid x) H H'∧((∃ t' x',tkM names r t ks=some t'∧(∀ j20:K.Fn 2,l_def_task JN GO cK j20 nx (.ptr q 0) (.ptr p 0) kx wx (.int .i64 (w.length:Nat)) (.int .i64 (i:Nat)) H=j20 (.ptr q 0) (.ptr p 0) H')∧TO H' p t' x'∧∀ j∈rid x',j∈rid x∨H.next≤j)∨
   (tkM names r t ks=none∧(cellAt H q 0).isSome=true∧False)∨(tkM names r t ks=none∧∃ H2,Out (p::rid x) H H2∧∀ j20:K.Fn 2,l_def_task JN GO cK j20 nx (.ptr q 0) (.ptr p 0) kx wx (.int .i64 (w.length:Nat)) (.int .i64 (i:Nat)) H=B1 (st 6 (.ptr q 0) (.agg [(.str []),.slice0,(.int .i64 0),(.int .i64 0),(.int .i64 0),(.str [])]) H2) fun h=>B1 (lda 6 (.ptr q 0) h) fun v=>some (.tuple [v,.bool false],h)))
 | [],i,H,t,x,kx,ks,hi,h,hg,hp11,hx11,hnx,hwx,hkx,hkl,hT,hd,hal=>by
  obtain rfl:=drop_nil hi h
  refine ⟨H,Out.refl _ _,.inl ⟨t,x,rfl,fun j20 => ?_,hT,fun j hj => .inl hj⟩⟩
  rw [ql_def_task]
  simp only [bl_def_task,lt_f,k_s,k_x,simprocAttr]
 | s::r,i,H,t,x,kx,ks,hi,h,hg,hp11,hx11,hnx,hwx,hkx,hkl,hT,hd,hal=>by
  obtain ⟨h1,h2,h3⟩:=hd_drop h
  obtain ⟨y,q1,q2⟩:=hwx.ia1 (strs_get h2) .i64
  have es:=wrap_s h1 (by omega)
  have hsl:=hws s (List.mem_of_getElem? h2)
  have hcut:=cut_c (c:=61) (by decide) (s:=s) (by omega) H
  obtain ⟨cl1,cl2⟩:=cut_len 61 s
  have hidx:=indexstring_c hkx (by omega) (cut 61 s).1
  have hsum:sumL (s::r)=s.length + sumL r:=by simp [sumL]
  rw [hsum] at hal
  simp only [List.length_cons] at hal
  have hfl6:fl [(.str []),.slice0,(.int .i64 0),(.int .i64 0),(.int .i64 0),(.str [])] []=some [(.str []),.slice0,(.int .i64 0),(.int .i64 0),(.int .i64 0),(.str [])]:=rfl
  unfold tkM
  cases hf:ks.findIdx? (fun a=>(cut 61 s).1 == a) with
  | none=>
   rw [hf] at hidx
   have d:decide (ixo none < 0)=true:=rfl
   refine ⟨H,Out.refl _ _,.inr (.inr ⟨rfl,H,Out.refl _ _,fun j20 => ?_⟩)⟩
   rw [ql_def_task]
   simp (disch:=(first | assumption | omega | (simp only [k_d,k_c,simprocAttr] <;> fail) | (simp only [k_c]; omega) | (simp only [k_d,k_c,simprocAttr, *] <;> fail) | fail)) only [bl_def_task,lt_t h1,q1,q2,hcut,hidx,d,hfl6,k_a,k_b,k_s,k_x,simprocAttr]
  | some m=>
   rw [hf] at hidx
   have hm:=find_lt hf
   have d:decide (ixo (some m) < 0)=false:=decide_eq_false (by show ¬ ((m:Int) < 0); omega)
   have hix:ixo (some m)=(m:Int):=rfl
   rw [hix] at hidx d
   simp only
   by_cases hl:(cut 61 s).1.length=s.length
   ·have d2:(((cut 61 s).1.length:Int) == (s.length:Int))=true:=by rw [hl]; simp
    rw [if_pos hl]
    refine ⟨H,Out.refl _ _,.inr (.inr ⟨rfl,H,Out.refl _ _,fun j20 => ?_⟩)⟩
    rw [ql_def_task]
    simp (disch:=(first | assumption | omega | (simp only [k_d,k_c,simprocAttr] <;> fail) | (simp only [k_c]; omega) | (simp only [k_d,k_c,simprocAttr, *] <;> fail) | fail)) only [bl_def_task,lt_t h1,q1,q2,hcut,hidx,d,d2,hfl6,k_a,k_b,k_s,k_x,simprocAttr]
   ·have d2:(((cut 61 s).1.length:Int) == (s.length:Int))=false:=beq_false_of_ne (by omega)
    rw [if_neg hl]
    obtain ⟨ok,H1,s1,s2,s3,s4⟩:=set_c (key:=(cut 61 s).1) (value:=(cut 61 s).2.1) hg hnn (by omega) hnx hT (fun j hj=>hd j (.inl hj)) (by omega)
    cases ok with
    | false=>
     have hs:=s4 rfl
     rw [hs]
     refine ⟨H1,s2,.inr (.inr ⟨rfl,H1,s2,fun j20 => ?_⟩)⟩
     rw [ql_def_task]
     simp (disch:=(first | assumption | omega | (simp only [k_d,k_c,simprocAttr] <;> fail) | (simp only [k_c]; omega) | (simp only [k_d,k_c,simprocAttr, *] <;> fail) | fail)) only [bl_def_task,lt_t h1,q1,q2,hcut,hidx,d,d2,s1,hfl6,k_a,k_b,k_s,k_x,simprocAttr]
    | true=>
     obtain ⟨t',x',u1,u2,u3⟩:=s3 rfl
     rw [u1]
     have hsl2:=setM_len u1
     have e1:IntKind.wrap .i64 ((m:Int) + 1)=((m + 1:Nat):Int):=by rw [wrap_i64 (by omega) (by omega)]; rfl
     have hd1:∀ j,j∈rid nx∨j∈rid wx∨j∈rid kx→j∉p::rid x:=fun j hj=>by rw [List.mem_cons,not_or]; exact hd j hj
     have hkx1:=hkx.out s2 fun j hj=>hd1 j (.inr (.inr hj))
     obtain ⟨kx',k1,k2,k3⟩:=sll_rw (n:=ks.length) hkx1 (by rw [strs_len,Nat.mul_one]) (by decide) (a:=m + 1) (b:=ks.length) (lo:=some (.int .i64 (m + 1:Nat))) (hi:=none) (by omega) (Nat.le_refl _) (Bd.yes _ _ _) (Bd.no _)
     have hk2:((strs ks).drop ((m + 1) * 1)).take ((ks.length - (m + 1)) * 1)=strs (ks.drop (m + 1)):=by
      rw [Nat.mul_one,Nat.mul_one,List.take_of_length_le (by rw [List.length_drop,strs_len]; omega)]
      simp [strs,List.map_drop]
     rw [hk2] at k2
     have hlt:∀ j,j∈rid nx∨j∈rid wx∨j∈rid kx→j < H.next:=fun j hj=>by
      rcases hj with hj | hj | hj
      ·exact hnx.lt j hj
      ·exact hwx.lt j hj
      ·exact hkx.lt j hj
     have hgn:=hg.nx
     have hn1:=s2.nx
     obtain ⟨H',i1,i2⟩:=task_loop (q:=q) hnn hwl hws hpq r (i + 1) H1 t' x' kx' (ks.drop (m + 1)) h1 h3 (hg.out s2 fun j hj=>by
      rcases List.mem_cons.1 hj with rfl | hj
      ·exact hp11
      ·exact hx11 j hj) hp11 (fun j hj=>(u3 j hj).elim (hx11 j) fun z=>by omega) (hnx.out s2 fun j hj=>hd1 j (.inl hj)) (hwx.out s2 fun j hj=>hd1 j (.inr (.inl hj))) k2 (by rw [List.length_drop]; omega) u2 (fun j hj=>by
       have hj':j∈rid nx∨j∈rid wx∨j∈rid kx:=hj.imp id fun z=>z.imp id (k3 j)
       exact ⟨(hd j hj').1,fun z=>(u3 j z).elim (hd j hj').2 fun y=>by have:=hlt j hj'; omega⟩) (by omega)
     have key:∀ j∈p::rid x',j∈p::rid x∨H.next≤j:=fun j hj=>by
      rcases List.mem_cons.1 hj with rfl | hj
      ·exact .inl (.head _)
      ·exact (u3 j hj).imp (fun z => .tail _ z) id
     refine ⟨H',s2.then i1 key,?_⟩
     simp only
     rcases i2 with ⟨t2,x2,v1,v2,v3,v4⟩ | ⟨_,_,v⟩ | ⟨v1,H2,v2,v3⟩
     ·refine .inl ⟨t2,x2,v1,fun j20 => ?_,v3,fun j hj=>(v4 j hj).elim (u3 j) fun z => .inr (by omega)⟩
      rw [ql_def_task]
      simp (disch:=(first | assumption | omega | (simp only [k_d,k_c,simprocAttr] <;> fail) | (simp only [k_c]; omega) | (simp only [k_d,k_c,simprocAttr, *] <;> fail) | fail)) only [bl_def_task,lt_t h1,q1,q2,hcut,hidx,d,d2,s1,e1,k1,es,v2,k_a,k_b,k_s,k_x,simprocAttr]
     ·exact v.elim
     ·refine .inr (.inr ⟨v1,H2,s2.then v2 key,fun j20 => ?_⟩)
      rw [ql_def_task]
      simp (disch:=(first | assumption | omega | (simp only [k_d,k_c,simprocAttr] <;> fail) | (simp only [k_c]; omega) | (simp only [k_d,k_c,simprocAttr, *] <;> fail) | fail)) only [bl_def_task,lt_t h1,q1,q2,hcut,hidx,d,d2,s1,e1,k1,es,v3,k_a,k_b,k_s,k_x,simprocAttr]
abbrev keysM:List Str:=[kAfter,kRetry,kWait,kBase,kOn]
noncomputable def taskM (names w:List Str):Option Tk:=tkM names w.tail ⟨w.headD [],[],0,10,1,[]⟩ keysM
theorem stAll {H:Hp} {i n el:Nat} {l vs:List AV} (h:Cs H i l el 0) (hn:n=vs.length) (hl:l.length=vs.length) (hv:vs.all oneC=true):∃ H',st n (.ptr i 0) (.agg vs) H=some H'∧Cs H' i vs el 0∧Out [i] H H'∧H'.next=H.next:=by
 obtain ⟨hi,c,hc,hg⟩:=h
 obtain ⟨H',c',q1,q2,q3,q4,q5⟩:=setCells_get vs H i 0 c 0 l.length el 0 hc (by omega) (Nat.le_refl _) (by omega) (fun k hk=>by rw [Nat.zero_add,hg k (l[k]'(by omega)) (List.getElem?_eq_getElem (by omega))]; rfl) (List.all_eq_true.1 hv)
 refine ⟨H',?_,⟨by omega,c',?_,fun k v hk => ?_⟩,⟨by omega,fun j hj hn=>q4 j (by simpa using hn)⟩,q2⟩
 ·unfold st
  have:Nat.beq n vs.length=true:=by subst hn; exact Nat.beq_refl _
  simp only [cellsV_agg,this,cond_true]
  exact q1
 ·rw [q3,hl]
 ·have:=(List.getElem?_eq_some_iff.1 hk).1
  rw [q5,if_pos (by omega),Nat.sub_zero]; exact hk
theorem task_c {names w:List Str} {nx wx:AV} {H:Hp} (hg:Gl H) (hnn:names.length≤100000) (hw0:w≠[]) (hwl:w.length≤5000) (hws:∀ s∈w,s.length≤80000) (hsum:sumL w + w.length≤10000) (hnx:Rw H 1 nx (strs names)) (hwx:Rw H 1 wx (strs w)) :
  ∃ H',Out [] H H'∧((∃ t x,taskM names w=some t∧cK (.func (.func 94) [] []) [wx,nx] H=some (.tuple [.agg (tkC t x),.bool true],H')∧Rw H' 1 x (ints t.after)∧∀ j∈rid x,H.next≤j)∨(taskM names w=none∧∃ v,cK (.func (.func 94) [] []) [wx,nx] H=some (.tuple [.agg v,.bool false],H')∧v.length=6∧v.all oneC=true)):=by
 obtain ⟨w0,w,rfl⟩:∃ a b,w=a::b:=by
  cases w with
  | nil=>exact absurd rfl hw0
  | cons a b=>exact ⟨a,b,rfl⟩
 have hgn:=hg.nx
 have o1:=al_out H [(AV.str []),AV.slice0,(AV.int .i64 0),(AV.int .i64 0),(AV.int .i64 0),(AV.str [])] 107 0
 have o2:=al_out (al H [(AV.str []),AV.slice0,(AV.int .i64 0),(AV.int .i64 0),(AV.int .i64 0),(AV.str [])] 107 0) (tkC ⟨w0,[],0,10,1,[]⟩ .slice0) 107 0
 have o3:=al_out (al (al H [(AV.str []),AV.slice0,(AV.int .i64 0),(AV.int .i64 0),(AV.int .i64 0),(AV.str [])] 107 0) (tkC ⟨w0,[],0,10,1,[]⟩ .slice0) 107 0) (strs keysM) 9 0
 have o12:=o1.trans o2
 have o13:=o12.trans o3
 have c1:=((al_cs H [(AV.str []),AV.slice0,(AV.int .i64 0),(AV.int .i64 0),(AV.int .i64 0),(AV.str [])] 107 0).out o2 (by simp)).out o3 (by simp)
 have c2:=(al_cs (al H [(AV.str []),AV.slice0,(AV.int .i64 0),(AV.int .i64 0),(AV.int .i64 0),(AV.str [])] 107 0) (tkC ⟨w0,[],0,10,1,[]⟩ .slice0) 107 0).out o3 (by simp)
 have c3:=al_cs (al (al H [(AV.str []),AV.slice0,(AV.int .i64 0),(AV.int .i64 0),(AV.int .i64 0),(AV.str [])] 107 0) (tkC ⟨w0,[],0,10,1,[]⟩ .slice0) 107 0) (strs keysM) 9 0
 generalize hH3:al (al (al H [(AV.str []),AV.slice0,(AV.int .i64 0),(AV.int .i64 0),(AV.int .i64 0),(AV.str [])] 107 0) (tkC ⟨w0,[],0,10,1,[]⟩ .slice0) 107 0) (strs keysM) 9 0=H3 at *
 have hn3:H3.next=H.next + 3:=by rw [← hH3]; rfl
 have hkr:Rw H3 1 (.slice (H.next + 2) 0 5 5 true 1) (strs keysM) := .mk c3.ro rfl (Nat.le_refl _) rfl
 have hwx3:=hwx.out0 o13
 obtain ⟨wx',s1,s2,s3⟩:=sll_rw (n:=w.length + 1) hwx3 (by rw [strs_len]; simp) (by decide) (a:=1) (b:=w.length + 1) (lo:=some (.int .i64 1)) (hi:=none) (by omega) (Nat.le_refl _) (Bd.yes .i64 1 0) (Bd.no _)
 have hs2:((strs (w0::w)).drop (1 * 1)).take ((w.length + 1 - 1) * 1)=strs w:=by
  rw [Nat.mul_one,Nat.mul_one,Nat.add_sub_cancel]
  show (strs w).take w.length=_
  rw [List.take_of_length_le (by rw [strs_len]; omega)]
 rw [hs2] at s2
 have hwl':=s2.len1
 rw [strs_len] at hwl'
 have hwr:=hwx.lt
 have hnr:=hnx.lt
 obtain ⟨y,y1,y2⟩:=(hwx.out0 o1).ia1 (i:=0) (v := .str w0) rfl .i64
 rw [show (((0:Nat):Int))=0 from rfl] at y1
 have hs0:sumL (w0::w)=w0.length + sumL w:=by simp [sumL]
 rw [hs0] at hsum
 simp only [List.length_cons] at hsum hwl
 have hT:TO H3 (H.next + 1) ⟨w0,[],0,10,1,[]⟩ .slice0:=⟨c2,.nil,by simp [rid]⟩
 obtain ⟨H4,i1,i2⟩:=task_loop (q:=H.next) (p:=H.next + 1) hnn (by omega) (fun s hs=>hws s (.tail _ hs)) (by omega) w 0 H3 ⟨w0,[],0,10,1,[]⟩ .slice0 (.slice (H.next + 2) 0 5 5 true 1) keysM (Nat.zero_le _) List.drop_zero (hg.out0 o13) (by omega) (fun j hj=>by cases hj) (hnx.out0 o13) s2 hkr (by decide) hT (fun j hj=>by
  refine ⟨?_,by simp [rid]⟩
  rcases hj with hj | hj | hj
  ·have:=hnr j hj; omega
  ·have:=hwr j (s3 j hj); omega
  ·rw [rid_s (by rfl),List.mem_singleton] at hj; omega) (by simp; omega)
 have i1':Out [H.next + 1] H3 H4:=i1.mono fun j hj=>by
  rcases List.mem_cons.1 hj with rfl | hj
  ·exact .head _
  ·cases hj
 have hfl1:fl [(.str []),.slice0,(.int .i64 0),(.int .i64 0),(.int .i64 0),(.str [])] [(0,1,.str w0),(3,1,.int .i64 10),(4,1,.int .i64 1)]=some (tkC ⟨w0,[],0,10,1,[]⟩ .slice0):=rfl
 have hfl2:fl [(.str []),(.str []),(.str []),(.str []),(.str [])] [(0,1,.str [97,102,116,101,114]),(1,1,.str [114,101,116,114,121]),(2,1,.str [119,97,105,116]),(3,1,.str [98,97,115,101]),(4,1,.str [111,110])]=some (strs keysM):=rfl
 have hst:=st_tk ⟨w0,[],0,10,1,[]⟩ .slice0 rfl (al H [(AV.str []),AV.slice0,(AV.int .i64 0),(AV.int .i64 0),(AV.int .i64 0),(AV.str [])] 107 0)
 have hnk:newCells (al (al H [(AV.str []),AV.slice0,(AV.int .i64 0),(AV.int .i64 0),(AV.int .i64 0),(AV.str [])] 107 0) (tkC ⟨w0,[],0,10,1,[]⟩ .slice0) 107 0) (strs keysM) 9 0=some (H.next + 2,H3):=by rw [← hH3,newCells_al (by show 5≤_; omega)]; rfl
 have hid2:H.next + 1 + 1=H.next + 2:=rfl
 have hm:taskM names (w0::w)=tkM names w ⟨w0,[],0,10,1,[]⟩ keysM:=rfl
 rw [hm]
 have fin:∀ {A:Hp} {S:List Nat},Out S H3 A→(∀ j∈S,H.next≤j)→Out [] H A:=fun h hS=>o13.then h fun j hj => .inr (hS j hj)
 have h66:(al H [(AV.str []),AV.slice0,(AV.int .i64 0),(AV.int .i64 0),(AV.int .i64 0),(AV.str [])] 107 0).next=H.next + 1:=rfl
 rw [h66] at hst
 rw [show (((0:Nat):Int))=0 from rfl] at i2
 rcases i2 with ⟨t,x,v1,v2,v3,v4⟩ | ⟨_,_,v⟩ | ⟨v1,H5,v2,v3⟩
 ·have hx1:=v3.o.oneX
  have hct:cellsAt H4 (H.next + 1) 0 6=some (tkC t x):=v3.c.cellsAt 6 0 (by rw [tk_len]; omega)
  have c4:=c1.out i1' (by simp)
  obtain ⟨H5,w1,w2,w3,w4⟩:=stAll (n:=6) (vs:=tkC t x) c4 rfl rfl (by simp [tkC,oneC_s,oneC_i,hx1])
  have hc5:cellsAt H5 H.next 0 6=some (tkC t x):=w2.cellsAt 6 0 (by rw [tk_len]; omega)
  have hxr:∀ j∈rid x,H3.next≤j:=fun j hj=>(v4 j hj).elim (fun z=>by cases z) id
  refine ⟨H5,(fin i1' (fun j hj=>by rw [List.mem_singleton] at hj; omega)).then w3 fun j hj=>by rw [List.mem_singleton] at hj; exact .inr (by omega),.inl ⟨t,x,v1,c_def_task ?_,v3.o.rw.out w3 fun j hj=>by rw [List.mem_singleton]; have:=hxr j hj; omega,fun j hj=>by have:=hxr j hj; omega⟩⟩
  unfold s_def_task
  simp (disch:=(first | assumption | omega | (simp only [k_d,k_c,simprocAttr] <;> fail) | (simp only [k_c]; omega) | (simp only [k_d,k_c,simprocAttr, *] <;> fail) | fail)) only [y1,y2,hfl1,hst,hfl2,hnk,hH3,hid2,s1,hwl',v2,hct,w1,hc5,k_a,k_b,k_s,k_x,simprocAttr]
 ·exact v.elim
 ·have v2':Out [H.next + 1] H3 H5:=v2.mono fun j hj=>by
   rcases List.mem_cons.1 hj with rfl | hj
   ·exact .head _
   ·cases hj
  have c5:=c1.out v2' (by simp)
  obtain ⟨H6,w1,w2,w3,w4⟩:=stAll (n:=6) (vs:=[(AV.str []),AV.slice0,(AV.int .i64 0),(AV.int .i64 0),(AV.int .i64 0),(AV.str [])]) c5 rfl rfl rfl
  have hc6:cellsAt H6 H.next 0 6=some [(AV.str []),AV.slice0,(AV.int .i64 0),(AV.int .i64 0),(AV.int .i64 0),(AV.str [])]:=w2.cellsAt 6 0 (by show 0 + 6≤6; omega)
  refine ⟨H6,(fin v2' (fun j hj=>by rw [List.mem_singleton] at hj; omega)).then w3 fun j hj=>by rw [List.mem_singleton] at hj; exact .inr (by omega),.inr ⟨v1,[(AV.str []),AV.slice0,(AV.int .i64 0),(AV.int .i64 0),(AV.int .i64 0),(AV.str [])],c_def_task ?_,rfl,rfl⟩⟩
  unfold s_def_task
  simp (disch:=(first | assumption | omega | (simp only [k_d,k_c,simprocAttr] <;> fail) | (simp only [k_c]; omega) | (simp only [k_d,k_c,simprocAttr, *] <;> fail) | fail)) only [y1,y2,hfl1,hst,hfl2,hnk,hH3,hid2,s1,hwl',v3,w1,hc6,k_a,k_b,k_s,k_x,simprocAttr]
end Go.Proofs.YtkhhnpkmblldbaaGreatDoor.DfK
