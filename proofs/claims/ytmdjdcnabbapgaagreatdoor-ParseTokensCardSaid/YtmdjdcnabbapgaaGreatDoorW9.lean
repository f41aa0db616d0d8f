/- Texts of this proof folded into one: A1. -/
import Derived.Test.YtmdjdcnabbapgaaGreatDoorW8
section
/- PARSE: the chapter's examples come: their pieces -/
open Go Go.Eng
namespace Go.Proofs
set_option maxRecDepth 100000
abbrev vAs (n:ByteArray):List AV:=[(vI (5)),(vI (0)),(vI (0)),(.slice 1 [[vS n]] .no),(.slice 5 [] .no),(.slice 8 [] .no),(.slice 9 [] .no),(.slice 4 [] .no)]
abbrev appA:List AV:=[(vI (8)),(vI (0)),(vI (0)),(.slice 1 [] .no),(.slice 5 [] .no),(.slice 8 [vAs ⟨#[102]⟩,vAs ⟨#[120]⟩] .no),(.slice 9 [] .no),(.slice 4 [] .no)]
abbrev oneA:List AV:=[(vI (1)),(vI (0)),(vI (1)),(.slice 1 [] .no),(.slice 5 [] .no),(.slice 8 [] .no),(.slice 9 [] .no),(.slice 4 [] .no)]
abbrev binV (o:Int) (l:List (List AV)):AV:=.agg [(vI (13)),(vI o),(vI (0)),(.slice 1 [] .no),(.slice 5 [] .no),(.slice 8 l .no),(.slice 9 [] .no),(.slice 4 [] .no)]
abbrev conR (n:ByteArray):List AV:=[(vI (2)),(vS ((⟨#[]⟩:ByteArray))),(.slice 1 [[vS n]] .no),(.slice 4 [] .no)]
abbrev kidsC:List (List AV):=[[(vI (4)),(vS ((⟨#[]⟩:ByteArray))),(.slice 1 [] .no),(.slice 4 [conR ⟨#[105,110,116]⟩,conR ⟨#[98,111,111,108]⟩] .no)],[(vI (1)),(vS ⟨#[97]⟩),(.slice 1 [] .no),(.slice 4 [] .no)]]
abbrev tyC:AV:=.agg [(vI (3)),(vS ((⟨#[]⟩:ByteArray))),(.slice 1 [] .no),(.slice 4 kidsC .no)]
theorem a_A:evp b1p [vS ⟨#[102,32,120,32,43,32,49]⟩] .none []=some ⟨.ret (.tuple [binV 1 [appA,oneA],vI 0,vI 0]),.none,[]⟩:=ac 150 (by kernel_rfl)
theorem a_B:evp b1p [vS ⟨#[97,32,60,32,98,32,60,32,99]⟩] .none []=some ⟨.ret (.tuple [.agg [(vI (0)),(vI (0)),(vI (0)),(.slice 1 [] .no),(.slice 5 [] .no),(.slice 8 [] .no),(.slice 9 [] .no),(.slice 4 [] .no)],vI 6,vI 11]),.none,[]⟩:=ac 150 (by kernel_rfl)
theorem a_C:evp c1j [vS ⟨#[105,110,116,32,42,32,98,111,111,108,32,45,62,32,39,97]⟩] .none []=some ⟨.ret (.tuple [tyC,vI 0,vI 0]),.none,[]⟩:=ac 150 (by kernel_rfl)
end Go.Proofs
end
