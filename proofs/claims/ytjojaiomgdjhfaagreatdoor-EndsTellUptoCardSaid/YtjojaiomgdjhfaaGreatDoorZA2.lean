/- Data that was read fits its type. No condition. -/
import Derived.Test.YtjojaiomgdjhfaaGreatDoorZA1
set_option linter.unusedVariables false
set_option linter.unusedSimpArgs false
namespace Go.Proofs.YtjojaiomgdjhfaaGreatDoor.AE
open Go
inductive Dwf {H:Type} (tb:List TI):TypeId→DataW H→Prop
  | bool {t:TypeId} {b:Bool} (h:descOf tb t = some .bool):Dwf tb t (.lit (.bool b))
  | int {t:TypeId} {k:IntKind} {n:Int} (h:descOf tb t = some (.int k)) (hw:(Lit.int k n).wf = true):Dwf tb t (.lit (.int k n))
  | str {t:TypeId} {s:List UInt8} (h:descOf tb t = some .string) (hl:s.length ≤ maxLen):Dwf tb t (.lit (.string s))
  | nilp {t e:TypeId} (h:descOf tb t = some (.ptr e)):Dwf tb t .nil
  | nils {t e:TypeId} (h:descOf tb t = some (.slice e)):Dwf tb t .nil
  | ptr {t e:TypeId} {d:DataW H} (h:descOf tb t = some (.ptr e)) (hd:Dwf tb e d):Dwf tb t (.ptr d)
  | slice {t e:TypeId} {es rest:List (DataW H)} (h:descOf tb t = some (.slice e)) (hl:es.length ≤ maxLen) (he:∀ d ∈ es,Dwf tb e d):Dwf tb t (.slice es rest)
  | struct {t:TypeId} {fs:List (Nat × TypeId)} {ds:List (DataW H)} (h:descOf tb t = some (.struct fs)) (hl:ds.length = fs.length) (he:∀ (i:Nat) (f:Nat × TypeId) (d:DataW H),fs[i]? = some f→ds[i]? = some d→Dwf tb f.2 d):Dwf tb t (.agg ds)
  | array {t:TypeId} {n:Nat} {e:TypeId} {ds:List (DataW H)} (h:descOf tb t = some (.array n e)) (hl:ds.length = n) (he:∀ d ∈ ds,Dwf tb e d):Dwf tb t (.agg ds)
section
variable {H:Type} {enc:TypeId × Value→H} {P:Program} {w:World} {base:Nat} {spare:Nat→Bool} {held:Bool} {tb:List TI} {T:List TypeId}
theorem trod_dwf (hP:TbOk P tb) (hT:plainT tb T = true):∀ (fuel:Nat) (t:TypeId) (cs:List Value) (x:DataW H × List MemPlace),t ∈ T→DataW.trod enc P w base spare held fuel t cs = some x→Dwf tb t x.1:=by
  intro fuel
  induction fuel with
  | zero=>intro t cs x _ h; simp [DataW.trod] at h
  | succ fuel ih=>
    intro t cs x ht h
    obtain ⟨ti,hti,hone⟩:=plainT_get hT ht
    have hck:=List.all_eq_true.1 hT t ht
    rw [hti] at hck
    simp only at hck
    have hd:descOf tb t = some ti.desc:=by simp [descOf,hti]
    obtain ⟨d',hu,hd'⟩:=(hP.facts hti).under
    cases hdesc:ti.desc with
    | bool=>
      rw [hdesc] at hck hd' hd
      rw [ofDesc_bool hd'] at hu
      obtain ⟨b,rfl,rfl⟩:=DataW.trod_bool hu h
      exact .bool hd
    | int k=>
      rw [hdesc] at hck hd' hd
      rw [ofDesc_int hd'] at hu
      obtain ⟨n,rfl,rfl,hw⟩:=DataW.trod_int hu h
      exact .int hd hw
    | string=>
      rw [hdesc] at hck hd' hd
      rw [ofDesc_string hd'] at hu
      obtain ⟨s,rfl,rfl,hs⟩:=DataW.trod_string hu h
      exact .str hd (by simpa using hs)
    | ptr e=>
      rw [hdesc] at hck hd' hd
      simp only [Bool.and_eq_true,beq_iff_eq,decide_eq_true_eq] at hck
      obtain ⟨⟨⟨c1,c2⟩,c3⟩,c4⟩:=hck
      have he:e ∈ T:=by simpa using c3
      rw [ofDesc_ptr hd'] at hu
      rcases DataW.trod_pointer hu h with ⟨rfl,rfl⟩ | ⟨a,cs',y,n,hn,rfl,rfl,hcs,hy⟩
      · exact .nilp hd
      · cases hn
        exact .ptr hd (ih e cs' y he hy)
    | slice e=>
      rw [hdesc] at hck hd' hd
      simp only [Bool.and_eq_true,beq_iff_eq,decide_eq_true_eq] at hck
      obtain ⟨⟨⟨c1,c2⟩,c3⟩,c4⟩:=hck
      have he:e ∈ T:=by simpa using c3
      rw [ofDesc_slice hd'] at hu
      rcases DataW.trod_slice hu h with ⟨rfl,rfl⟩ | ⟨a,len,cap,elems,rest,n,hn,rfl,rfl,_,hlc,hcm,hlen,hel,_,_⟩
      · exact .nils hd
      · cases hn
        refine .slice hd (by rw [List.length_map,hlen]; exact Nat.le_trans hlc hcm) fun d hdm=>?_
        obtain ⟨y,hy,rfl⟩:=List.mem_map.1 hdm
        obtain ⟨i,hi⟩:=List.getElem?_of_mem hy
        have hil:i < len:=by rw [← hlen]; exact (List.getElem?_eq_some_iff.1 hi).1
        have h1:=hel i hil
        rw [hi,Option.bind_eq_some_iff] at h1
        obtain ⟨cs',_,k2⟩:=h1
        exact ih e cs' y he k2
    | struct fs=>
      rw [hdesc] at hck hd' hd
      simp only [Bool.and_eq_true,beq_iff_eq,List.all_eq_true] at hck
      obtain ⟨⟨c1,c2⟩,c3⟩:=hck
      obtain ⟨fs',e1,e2⟩:=ofDesc_struct hd'
      rw [e1] at hu
      obtain ⟨xs,n,hn,rfl,hlc,hxl,hf⟩:=DataW.trod_struct hu h
      cases hn
      refine .struct hd (by rw [List.length_map,hxl,e2]; simp) fun i f d hi hdi=>?_
      rw [e2,List.getElem?_map,Option.map_eq_some_iff] at hi
      obtain ⟨f',hf',rfl⟩:=hi
      rw [List.getElem?_map,Option.map_eq_some_iff] at hdi
      obtain ⟨y,hy,rfl⟩:=hdi
      have h1:=hf i f' (by simpa using hf')
      rw [hy] at h1
      refine ih f'.type _ y ?_ h1
      have:=c2 (f'.offset,f'.type) (by rw [e2]; exact List.mem_map.2 ⟨f',List.mem_of_getElem? hf',rfl⟩)
      simpa using this
    | array m e=>
      rw [hdesc] at hck hd' hd
      simp only [Bool.and_eq_true,beq_iff_eq] at hck
      obtain ⟨⟨c1,c2⟩,c3⟩:=hck
      have he:e ∈ T:=by simpa using c2
      rw [ofDesc_array hd'] at hu
      obtain ⟨xs,n,hn,rfl,hlc,hxl,hf⟩:=DataW.trod_array hu h
      cases hn
      refine .array hd (by rw [List.length_map,hxl]) fun d hdm=>?_
      obtain ⟨y,hy,rfl⟩:=List.mem_map.1 hdm
      obtain ⟨i,hi⟩:=List.getElem?_of_mem hy
      have hil:i < m:=by rw [← hxl]; exact (List.getElem?_eq_some_iff.1 hi).1
      have h1:=hf i hil
      rw [hi] at h1
      exact ih e _ y he h1
    | _=>rw [hdesc] at hck; simp at hck
end
end Go.Proofs.YtjojaiomgdjhfaaGreatDoor.AE
