
import Derived.Test.YthlifogbkgdggaaGreatDoorVwP54
namespace Go.Vw
open Go.RowKit Dat
theorem bd_un3' {A B C:Type}(o:Option (A×B×C)):bd o (un3 fun x y z=>some (x,y,z))=o:=by
 rcases o with _ | ⟨x,y,z⟩ <;> rfl
section
variable {b:List UInt8}{i h:Int}
theorem m_W (G:0<=i)(h1:i<=(b.length:Int))(hb:b.length<=MX){x:List UInt8}(hx:x.length<=61440):Dr b (e_M ⟨b,i,h⟩ x) (fun y=>y.length<=61441):=by
 have hLIM:=a_v;unfold e_M
 rw [c_p (by simp;omega),bd_some,List.nil_append]
 simp only [bd_un3']
 refine (a_x (n:=6) G h1 hb (by omega)).bd fun r i h hr G h1=>?_
 by_cases H:(r==0)=true
 ·rw [iP_ H]
  by_cases hp:(0:Int)<(x.length:Int)
  ·rw [dT_ hp,iP_ rfl]
   refine (a_x G h1 hb hp).bd fun k i h hk G h1=>?_
   refine (a_x (n:=256) G h1 hb (by omega)).bd fun y i h hy G h1=>?_
   rw [n_z hk.1 hk.2,bd_some]
   exact ⟨_,_,_,rfl,G,h1,by simp;omega⟩
  ·rw [dF_ hp]
   exact ⟨_,_,_,rfl,G,h1,by omega⟩
 ·rw [iN_ H]
  by_cases I:(r==1)=true
  ·rw [iP_ I,ia_ (by omega) (by omega)]
   refine (a_x G h1 hb (show (0:Int)<(x.length:Int)+1 by omega)).bd fun k i h hk G h1=>?_
   rw [h_3 (by omega) (by omega) (by omega),bd_some]
   exact ⟨_,_,_,rfl,G,h1,by simp;omega⟩
  ·rw [iN_ I]
   by_cases J:(r==2)=true
   ·rw [iP_ J]
    refine (g_W G h1 hb (by simp)).bd fun k i h hk G h1=>?_
    rw [a_F (by omega),bd_some]
    exact ⟨_,_,_,rfl,G,h1,by simp;omega⟩
   ·rw [iN_ J]
    exact ⟨_,_,_,rfl,G,h1,by omega⟩
end
end Go.Vw
