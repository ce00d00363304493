/- Contracts of functions, by their numbers, and the laws that walk them. Conditions: as each states. -/
import Derived.Test.YtihjddokgmjafaaDoorProg
import Derived.KernelRfl
import Derived.Test.YtihjddokgmjafaaDoorH3
set_option linter.all false
section
set_option linter.all false
namespace Go.Proofs
open Go.Hw
set_option maxRecDepth 100000
theorem mixed : Tryd.prog.follows .mixedOrders = true := by kernel_rfl
@[simp] theorem sz3 : szOf Tryd.prog 3 = some 1 := by kernel_rfl
@[simp] theorem ag3 : aggB Tryd.prog 3 = some false := by kernel_rfl
@[simp] theorem ei3 : eInfo Tryd.prog 3 = some (1, 8) := by kernel_rfl
@[simp] theorem zo3 : zero1 Tryd.prog 3 = some (.p (.c (.int .i64 0))) := by kernel_rfl
@[simp] theorem ze3 : zeroA Tryd.prog 3 = some [.p (.c (.int .i64 0))] := by kernel_rfl
@[simp] theorem sz4 : szOf Tryd.prog 4 = some 1 := by kernel_rfl
@[simp] theorem ag4 : aggB Tryd.prog 4 = some false := by kernel_rfl
@[simp] theorem ei4 : eInfo Tryd.prog 4 = some (1, 1) := by kernel_rfl
@[simp] theorem zo4 : zero1 Tryd.prog 4 = some (.p (.c (.bool false))) := by kernel_rfl
@[simp] theorem ze4 : zeroA Tryd.prog 4 = some [.p (.c (.bool false))] := by kernel_rfl
@[simp] theorem sz5 : szOf Tryd.prog 5 = some 1 := by kernel_rfl
@[simp] theorem ag5 : aggB Tryd.prog 5 = some false := by kernel_rfl
@[simp] theorem ei5 : eInfo Tryd.prog 5 = some (1, 1) := by kernel_rfl
@[simp] theorem zo5 : zero1 Tryd.prog 5 = some (.p (.c (.int .u8 0))) := by kernel_rfl
@[simp] theorem ze5 : zeroA Tryd.prog 5 = some [.p (.c (.int .u8 0))] := by kernel_rfl
@[simp] theorem sz9 : szOf Tryd.prog 9 = some 1 := by kernel_rfl
@[simp] theorem ag9 : aggB Tryd.prog 9 = some false := by kernel_rfl
@[simp] theorem ei9 : eInfo Tryd.prog 9 = some (1, 16) := by kernel_rfl
@[simp] theorem zo9 : zero1 Tryd.prog 9 = some (.p (.c (.string ⟨#[]⟩))) := by kernel_rfl
@[simp] theorem ze9 : zeroA Tryd.prog 9 = some [.p (.c (.string ⟨#[]⟩))] := by kernel_rfl
@[simp] theorem sz26 : szOf Tryd.prog 26 = some 1 := by kernel_rfl
@[simp] theorem ag26 : aggB Tryd.prog 26 = some false := by kernel_rfl
@[simp] theorem ei26 : eInfo Tryd.prog 26 = some (1, 8) := by kernel_rfl
@[simp] theorem zo26 : zero1 Tryd.prog 26 = some (.p (.c (.int .i64 0))) := by kernel_rfl
@[simp] theorem ze26 : zeroA Tryd.prog 26 = some [.p (.c (.int .i64 0))] := by kernel_rfl
@[simp] theorem int31 : intT Tryd.prog 3 = true := by kernel_rfl
@[simp] theorem sz37 : szOf Tryd.prog 37 = some 1 := by kernel_rfl
@[simp] theorem ag37 : aggB Tryd.prog 37 = some false := by kernel_rfl
@[simp] theorem ei37 : eInfo Tryd.prog 37 = some (1, 24) := by kernel_rfl
@[simp] theorem zo37 : zero1 Tryd.prog 37 = some (.z) := by kernel_rfl
@[simp] theorem ze37 : zeroA Tryd.prog 37 = some [.z] := by kernel_rfl
@[simp] theorem sz38 : szOf Tryd.prog 38 = some 1 := by kernel_rfl
@[simp] theorem ag38 : aggB Tryd.prog 38 = some false := by kernel_rfl
@[simp] theorem ei38 : eInfo Tryd.prog 38 = some (1, 24) := by kernel_rfl
@[simp] theorem zo38 : zero1 Tryd.prog 38 = some (.z) := by kernel_rfl
@[simp] theorem ze38 : zeroA Tryd.prog 38 = some [.z] := by kernel_rfl
@[simp] theorem sz39 : szOf Tryd.prog 39 = some 1 := by kernel_rfl
@[simp] theorem ag39 : aggB Tryd.prog 39 = some false := by kernel_rfl
@[simp] theorem ei39 : eInfo Tryd.prog 39 = some (1, 24) := by kernel_rfl
@[simp] theorem zo39 : zero1 Tryd.prog 39 = some (.z) := by kernel_rfl
@[simp] theorem ze39 : zeroA Tryd.prog 39 = some [.z] := by kernel_rfl
@[simp] theorem sz40 : szOf Tryd.prog 40 = some 1 := by kernel_rfl
@[simp] theorem ag40 : aggB Tryd.prog 40 = some false := by kernel_rfl
@[simp] theorem ei40 : eInfo Tryd.prog 40 = some (1, 24) := by kernel_rfl
@[simp] theorem zo40 : zero1 Tryd.prog 40 = some (.z) := by kernel_rfl
@[simp] theorem ze40 : zeroA Tryd.prog 40 = some [.z] := by kernel_rfl
@[simp] theorem sz41 : szOf Tryd.prog 41 = some 5 := by kernel_rfl
@[simp] theorem ag41 : aggB Tryd.prog 41 = some true := by kernel_rfl
@[simp] theorem ei41 : eInfo Tryd.prog 41 = some (5, 120) := by kernel_rfl
@[simp] theorem ze41 : zeroA Tryd.prog 41 = some [.z, .z, .z, .z, .z] := by kernel_rfl
@[simp] theorem sz42 : szOf Tryd.prog 42 = some 5 := by kernel_rfl
@[simp] theorem ag42 : aggB Tryd.prog 42 = some true := by kernel_rfl
@[simp] theorem ei42 : eInfo Tryd.prog 42 = some (5, 120) := by kernel_rfl
@[simp] theorem ze42 : zeroA Tryd.prog 42 = some [.z, .z, .z, .z, .z] := by kernel_rfl
@[simp] theorem sz46 : szOf Tryd.prog 46 = some 1 := by kernel_rfl
@[simp] theorem ag46 : aggB Tryd.prog 46 = some false := by kernel_rfl
@[simp] theorem ei46 : eInfo Tryd.prog 46 = some (1, 8) := by kernel_rfl
@[simp] theorem zo46 : zero1 Tryd.prog 46 = some (.p (.c (.int .i64 0))) := by kernel_rfl
@[simp] theorem ze46 : zeroA Tryd.prog 46 = some [.p (.c (.int .i64 0))] := by kernel_rfl
@[simp] theorem sz47 : szOf Tryd.prog 47 = some 1 := by kernel_rfl
@[simp] theorem ag47 : aggB Tryd.prog 47 = some false := by kernel_rfl
@[simp] theorem ei47 : eInfo Tryd.prog 47 = some (1, 8) := by kernel_rfl
@[simp] theorem zo47 : zero1 Tryd.prog 47 = some (.p (.c (.int .i64 0))) := by kernel_rfl
@[simp] theorem ze47 : zeroA Tryd.prog 47 = some [.p (.c (.int .i64 0))] := by kernel_rfl
@[simp] theorem sz48 : szOf Tryd.prog 48 = some 1 := by kernel_rfl
@[simp] theorem ag48 : aggB Tryd.prog 48 = some false := by kernel_rfl
@[simp] theorem ei48 : eInfo Tryd.prog 48 = some (1, 24) := by kernel_rfl
@[simp] theorem zo48 : zero1 Tryd.prog 48 = some (.z) := by kernel_rfl
@[simp] theorem ze48 : zeroA Tryd.prog 48 = some [.z] := by kernel_rfl
@[simp] theorem sz49 : szOf Tryd.prog 49 = some 5 := by kernel_rfl
@[simp] theorem ag49 : aggB Tryd.prog 49 = some true := by kernel_rfl
@[simp] theorem ei49 : eInfo Tryd.prog 49 = some (5, 64) := by kernel_rfl
@[simp] theorem ze49 : zeroA Tryd.prog 49 = some [.p (.c (.int .i64 0)), .p (.c (.int .i64 0)), .p (.c (.string ⟨#[]⟩)), .p (.c (.int .i64 0)), .z] := by kernel_rfl
@[simp] theorem sz50 : szOf Tryd.prog 50 = some 5 := by kernel_rfl
@[simp] theorem ag50 : aggB Tryd.prog 50 = some true := by kernel_rfl
@[simp] theorem ei50 : eInfo Tryd.prog 50 = some (5, 64) := by kernel_rfl
@[simp] theorem ze50 : zeroA Tryd.prog 50 = some [.p (.c (.int .i64 0)), .p (.c (.int .i64 0)), .p (.c (.string ⟨#[]⟩)), .p (.c (.int .i64 0)), .z] := by kernel_rfl
@[simp] theorem sz55 : szOf Tryd.prog 55 = some 1 := by kernel_rfl
@[simp] theorem ag55 : aggB Tryd.prog 55 = some false := by kernel_rfl
@[simp] theorem ei55 : eInfo Tryd.prog 55 = some (1, 24) := by kernel_rfl
@[simp] theorem zo55 : zero1 Tryd.prog 55 = some (.z) := by kernel_rfl
@[simp] theorem ze55 : zeroA Tryd.prog 55 = some [.z] := by kernel_rfl
@[simp] theorem sz56 : szOf Tryd.prog 56 = some 3 := by kernel_rfl
@[simp] theorem ag56 : aggB Tryd.prog 56 = some true := by kernel_rfl
@[simp] theorem ei56 : eInfo Tryd.prog 56 = some (3, 56) := by kernel_rfl
@[simp] theorem ze56 : zeroA Tryd.prog 56 = some [.p (.c (.string ⟨#[]⟩)), .p (.c (.string ⟨#[]⟩)), .z] := by kernel_rfl
@[simp] theorem sz57 : szOf Tryd.prog 57 = some 3 := by kernel_rfl
@[simp] theorem ag57 : aggB Tryd.prog 57 = some true := by kernel_rfl
@[simp] theorem ei57 : eInfo Tryd.prog 57 = some (3, 56) := by kernel_rfl
@[simp] theorem ze57 : zeroA Tryd.prog 57 = some [.p (.c (.string ⟨#[]⟩)), .p (.c (.string ⟨#[]⟩)), .z] := by kernel_rfl
@[simp] theorem sz64 : szOf Tryd.prog 64 = some 1 := by kernel_rfl
@[simp] theorem ag64 : aggB Tryd.prog 64 = some false := by kernel_rfl
@[simp] theorem ei64 : eInfo Tryd.prog 64 = some (1, 8) := by kernel_rfl
@[simp] theorem zo64 : zero1 Tryd.prog 64 = some (.p (.c (.int .i64 0))) := by kernel_rfl
@[simp] theorem ze64 : zeroA Tryd.prog 64 = some [.p (.c (.int .i64 0))] := by kernel_rfl
@[simp] theorem sz65 : szOf Tryd.prog 65 = some 1 := by kernel_rfl
@[simp] theorem ag65 : aggB Tryd.prog 65 = some false := by kernel_rfl
@[simp] theorem ei65 : eInfo Tryd.prog 65 = some (1, 8) := by kernel_rfl
@[simp] theorem zo65 : zero1 Tryd.prog 65 = some (.p (.c (.int .i64 0))) := by kernel_rfl
@[simp] theorem ze65 : zeroA Tryd.prog 65 = some [.p (.c (.int .i64 0))] := by kernel_rfl
@[simp] theorem sz66 : szOf Tryd.prog 66 = some 9 := by kernel_rfl
@[simp] theorem ag66 : aggB Tryd.prog 66 = some true := by kernel_rfl
@[simp] theorem ei66 : eInfo Tryd.prog 66 = some (9, 144) := by kernel_rfl
@[simp] theorem ze66 : zeroA Tryd.prog 66 = some [.p (.c (.int .i64 0)), .p (.c (.string ⟨#[]⟩)), .p (.c (.string ⟨#[]⟩)), .p (.c (.string ⟨#[]⟩)), .p (.c (.int .i64 0)), .p (.c (.int .i64 0)), .z, .z, .z] := by kernel_rfl
@[simp] theorem sz67 : szOf Tryd.prog 67 = some 9 := by kernel_rfl
@[simp] theorem ag67 : aggB Tryd.prog 67 = some true := by kernel_rfl
@[simp] theorem ei67 : eInfo Tryd.prog 67 = some (9, 144) := by kernel_rfl
@[simp] theorem ze67 : zeroA Tryd.prog 67 = some [.p (.c (.int .i64 0)), .p (.c (.string ⟨#[]⟩)), .p (.c (.string ⟨#[]⟩)), .p (.c (.string ⟨#[]⟩)), .p (.c (.int .i64 0)), .p (.c (.int .i64 0)), .z, .z, .z] := by kernel_rfl
@[simp] theorem sz68 : szOf Tryd.prog 68 = some 2 := by kernel_rfl
@[simp] theorem ag68 : aggB Tryd.prog 68 = some true := by kernel_rfl
@[simp] theorem ei68 : eInfo Tryd.prog 68 = some (2, 24) := by kernel_rfl
@[simp] theorem ze68 : zeroA Tryd.prog 68 = some [.p (.c (.string ⟨#[]⟩)), .p (.c (.int .i64 0))] := by kernel_rfl
@[simp] theorem eqo68 : eqOk Tryd.prog 68 = true := by first | kernel_rfl
@[simp] theorem sz69 : szOf Tryd.prog 69 = some 2 := by kernel_rfl
@[simp] theorem ag69 : aggB Tryd.prog 69 = some true := by kernel_rfl
@[simp] theorem ei69 : eInfo Tryd.prog 69 = some (2, 24) := by kernel_rfl
@[simp] theorem ze69 : zeroA Tryd.prog 69 = some [.p (.c (.string ⟨#[]⟩)), .p (.c (.int .i64 0))] := by kernel_rfl
@[simp] theorem eqo69 : eqOk Tryd.prog 69 = true := by first | kernel_rfl
@[simp] theorem sz72 : szOf Tryd.prog 72 = some 1 := by kernel_rfl
@[simp] theorem ag72 : aggB Tryd.prog 72 = some false := by kernel_rfl
@[simp] theorem ei72 : eInfo Tryd.prog 72 = some (1, 8) := by kernel_rfl
@[simp] theorem ze72 : zeroA Tryd.prog 72 = some [.p (.c .nilFunc)] := by kernel_rfl
@[simp] theorem sz107 : szOf Tryd.prog 107 = some 2 := by kernel_rfl
@[simp] theorem ag107 : aggB Tryd.prog 107 = some true := by kernel_rfl
@[simp] theorem ei107 : eInfo Tryd.prog 107 = some (2, 24) := by kernel_rfl
@[simp] theorem ze107 : zeroA Tryd.prog 107 = some [.p (.c (.string ⟨#[]⟩)), .p (.c (.int .i64 0))] := by kernel_rfl
@[simp] theorem eqo107 : eqOk Tryd.prog 107 = true := by first | kernel_rfl
@[simp] theorem sz108 : szOf Tryd.prog 108 = some 2 := by kernel_rfl
@[simp] theorem ag108 : aggB Tryd.prog 108 = some true := by kernel_rfl
@[simp] theorem ei108 : eInfo Tryd.prog 108 = some (2, 24) := by kernel_rfl
@[simp] theorem ze108 : zeroA Tryd.prog 108 = some [.p (.c (.string ⟨#[]⟩)), .p (.c (.int .i64 0))] := by kernel_rfl
@[simp] theorem eqo108 : eqOk Tryd.prog 108 = true := by first | kernel_rfl
@[simp] theorem sz110 : szOf Tryd.prog 110 = some 5 := by kernel_rfl
@[simp] theorem ag110 : aggB Tryd.prog 110 = some true := by kernel_rfl
@[simp] theorem ei110 : eInfo Tryd.prog 110 = some (5, 120) := by kernel_rfl
@[simp] theorem ze110 : zeroA Tryd.prog 110 = some [.z, .z, .z, .z, .z] := by kernel_rfl
@[simp] theorem sz115 : szOf Tryd.prog 115 = some 1 := by kernel_rfl
@[simp] theorem ag115 : aggB Tryd.prog 115 = some false := by kernel_rfl
@[simp] theorem ei115 : eInfo Tryd.prog 115 = some (1, 8) := by kernel_rfl
@[simp] theorem ze115 : zeroA Tryd.prog 115 = some [.p (.c (.pointer none))] := by kernel_rfl
@[simp] theorem sz116 : szOf Tryd.prog 116 = some 9 := by kernel_rfl
@[simp] theorem ag116 : aggB Tryd.prog 116 = some true := by kernel_rfl
@[simp] theorem ei116 : eInfo Tryd.prog 116 = some (9, 200) := by kernel_rfl
@[simp] theorem ze116 : zeroA Tryd.prog 116 = some [.z, .z, .z, .z, .z, .z, .z, .z, .p (.c (.int .i64 0))] := by kernel_rfl
@[simp] theorem sz117 : szOf Tryd.prog 117 = some 9 := by kernel_rfl
@[simp] theorem ag117 : aggB Tryd.prog 117 = some true := by kernel_rfl
@[simp] theorem ei117 : eInfo Tryd.prog 117 = some (9, 200) := by kernel_rfl
@[simp] theorem ze117 : zeroA Tryd.prog 117 = some [.z, .z, .z, .z, .z, .z, .z, .z, .p (.c (.int .i64 0))] := by kernel_rfl
@[simp] theorem sz118 : szOf Tryd.prog 118 = some 1 := by kernel_rfl
@[simp] theorem ag118 : aggB Tryd.prog 118 = some false := by kernel_rfl
@[simp] theorem ei118 : eInfo Tryd.prog 118 = some (1, 24) := by kernel_rfl
@[simp] theorem zo118 : zero1 Tryd.prog 118 = some (.z) := by kernel_rfl
@[simp] theorem ze118 : zeroA Tryd.prog 118 = some [.z] := by kernel_rfl
@[simp] theorem sz123 : szOf Tryd.prog 123 = some 1 := by kernel_rfl
@[simp] theorem ag123 : aggB Tryd.prog 123 = some false := by kernel_rfl
@[simp] theorem ei123 : eInfo Tryd.prog 123 = some (1, 8) := by kernel_rfl
@[simp] theorem ze123 : zeroA Tryd.prog 123 = some [.p (.c .nilFunc)] := by kernel_rfl
@[simp] theorem sz124 : szOf Tryd.prog 124 = some 1 := by kernel_rfl
@[simp] theorem ag124 : aggB Tryd.prog 124 = some false := by kernel_rfl
@[simp] theorem ei124 : eInfo Tryd.prog 124 = some (1, 8) := by kernel_rfl
@[simp] theorem ze124 : zeroA Tryd.prog 124 = some [.p (.c .nilFunc)] := by kernel_rfl
@[simp] theorem sz133 : szOf Tryd.prog 133 = some 1 := by kernel_rfl
@[simp] theorem ag133 : aggB Tryd.prog 133 = some false := by kernel_rfl
@[simp] theorem ei133 : eInfo Tryd.prog 133 = some (1, 8) := by kernel_rfl
@[simp] theorem ze133 : zeroA Tryd.prog 133 = some [.p (.c .nilFunc)] := by kernel_rfl
@[simp] theorem sz136 : szOf Tryd.prog 136 = some 1 := by kernel_rfl
@[simp] theorem ag136 : aggB Tryd.prog 136 = some false := by kernel_rfl
@[simp] theorem ei136 : eInfo Tryd.prog 136 = some (1, 8) := by kernel_rfl
@[simp] theorem ze136 : zeroA Tryd.prog 136 = some [.p (.c .nilFunc)] := by kernel_rfl
@[simp] theorem sz156 : szOf Tryd.prog 156 = some 1 := by kernel_rfl
@[simp] theorem ag156 : aggB Tryd.prog 156 = some false := by kernel_rfl
@[simp] theorem ei156 : eInfo Tryd.prog 156 = some (1, 8) := by kernel_rfl
@[simp] theorem ze156 : zeroA Tryd.prog 156 = some [.p (.c (.pointer none))] := by kernel_rfl
@[simp] theorem sz157 : szOf Tryd.prog 157 = some 6 := by kernel_rfl
@[simp] theorem ag157 : aggB Tryd.prog 157 = some true := by kernel_rfl
@[simp] theorem ei157 : eInfo Tryd.prog 157 = some (6, 144) := by kernel_rfl
@[simp] theorem ze157 : zeroA Tryd.prog 157 = some [.z, .z, .z, .z, .z, .z] := by kernel_rfl
@[simp] theorem sz158 : szOf Tryd.prog 158 = some 6 := by kernel_rfl
@[simp] theorem ag158 : aggB Tryd.prog 158 = some true := by kernel_rfl
@[simp] theorem ei158 : eInfo Tryd.prog 158 = some (6, 144) := by kernel_rfl
@[simp] theorem ze158 : zeroA Tryd.prog 158 = some [.z, .z, .z, .z, .z, .z] := by kernel_rfl
@[simp] theorem sz162 : szOf Tryd.prog 162 = some 1 := by kernel_rfl
@[simp] theorem ag162 : aggB Tryd.prog 162 = some false := by kernel_rfl
@[simp] theorem ei162 : eInfo Tryd.prog 162 = some (1, 8) := by kernel_rfl
@[simp] theorem ze162 : zeroA Tryd.prog 162 = some [.p (.c .nilFunc)] := by kernel_rfl
@[simp] theorem sz163 : szOf Tryd.prog 163 = some 1 := by kernel_rfl
@[simp] theorem ag163 : aggB Tryd.prog 163 = some false := by kernel_rfl
@[simp] theorem ei163 : eInfo Tryd.prog 163 = some (1, 24) := by kernel_rfl
@[simp] theorem zo163 : zero1 Tryd.prog 163 = some (.z) := by kernel_rfl
@[simp] theorem ze163 : zeroA Tryd.prog 163 = some [.z] := by kernel_rfl
@[simp] theorem sz168 : szOf Tryd.prog 168 = some 1 := by kernel_rfl
@[simp] theorem ag168 : aggB Tryd.prog 168 = some false := by kernel_rfl
@[simp] theorem ei168 : eInfo Tryd.prog 168 = some (1, 8) := by kernel_rfl
@[simp] theorem ze168 : zeroA Tryd.prog 168 = some [.p (.c .nilFunc)] := by kernel_rfl
@[simp] theorem int186 : intT Tryd.prog 3 = true := by kernel_rfl
@[simp] theorem sz194 : szOf Tryd.prog 194 = some 38 := by kernel_rfl
@[simp] theorem ag194 : aggB Tryd.prog 194 = some true := by kernel_rfl
@[simp] theorem ei194 : eInfo Tryd.prog 194 = some (38, 608) := by kernel_rfl
@[simp] theorem ze194 : zeroA Tryd.prog 194 = some [.p (.c (.string ⟨#[]⟩)), .p (.c (.string ⟨#[]⟩)), .p (.c (.string ⟨#[]⟩)), .p (.c (.string ⟨#[]⟩)), .p (.c (.string ⟨#[]⟩)), .p (.c (.string ⟨#[]⟩)), .p (.c (.string ⟨#[]⟩)), .p (.c (.string ⟨#[]⟩)), .p (.c (.string ⟨#[]⟩)), .p (.c (.string ⟨#[]⟩)), .p (.c (.string ⟨#[]⟩)), .p (.c (.string ⟨#[]⟩)), .p (.c (.string ⟨#[]⟩)), .p (.c (.string ⟨#[]⟩)), .p (.c (.string ⟨#[]⟩)), .p (.c (.string ⟨#[]⟩)), .p (.c (.string ⟨#[]⟩)), .p (.c (.string ⟨#[]⟩)), .p (.c (.string ⟨#[]⟩)), .p (.c (.string ⟨#[]⟩)), .p (.c (.string ⟨#[]⟩)), .p (.c (.string ⟨#[]⟩)), .p (.c (.string ⟨#[]⟩)), .p (.c (.string ⟨#[]⟩)), .p (.c (.string ⟨#[]⟩)), .p (.c (.string ⟨#[]⟩)), .p (.c (.string ⟨#[]⟩)), .p (.c (.string ⟨#[]⟩)), .p (.c (.string ⟨#[]⟩)), .p (.c (.string ⟨#[]⟩)), .p (.c (.string ⟨#[]⟩)), .p (.c (.string ⟨#[]⟩)), .p (.c (.string ⟨#[]⟩)), .p (.c (.string ⟨#[]⟩)), .p (.c (.string ⟨#[]⟩)), .p (.c (.string ⟨#[]⟩)), .p (.c (.string ⟨#[]⟩)), .p (.c (.string ⟨#[]⟩))] := by kernel_rfl
@[simp] theorem sz196 : szOf Tryd.prog 196 = some 3 := by kernel_rfl
@[simp] theorem ag196 : aggB Tryd.prog 196 = some true := by kernel_rfl
@[simp] theorem ei196 : eInfo Tryd.prog 196 = some (3, 24) := by kernel_rfl
@[simp] theorem ze196 : zeroA Tryd.prog 196 = some [.p (.c (.int .i64 0)), .p (.c (.bool false)), .p (.c (.int .i64 0))] := by kernel_rfl
@[simp] theorem sz197 : szOf Tryd.prog 197 = some 3 := by kernel_rfl
@[simp] theorem ag197 : aggB Tryd.prog 197 = some true := by kernel_rfl
@[simp] theorem ei197 : eInfo Tryd.prog 197 = some (3, 24) := by kernel_rfl
@[simp] theorem ze197 : zeroA Tryd.prog 197 = some [.p (.c (.int .i64 0)), .p (.c (.bool false)), .p (.c (.int .i64 0))] := by kernel_rfl
@[simp] theorem sz199 : szOf Tryd.prog 199 = some 1 := by kernel_rfl
@[simp] theorem ag199 : aggB Tryd.prog 199 = some false := by kernel_rfl
@[simp] theorem ei199 : eInfo Tryd.prog 199 = some (1, 8) := by kernel_rfl
@[simp] theorem ze199 : zeroA Tryd.prog 199 = some [.p (.c .nilFunc)] := by kernel_rfl
@[simp] theorem int209 : intT Tryd.prog 3 = true := by kernel_rfl
@[simp] theorem int211 : intT Tryd.prog 3 = true := by kernel_rfl
attribute [simp] Tryd.underlying1 Tryd.underlying2 Tryd.underlying3 Tryd.underlying4 Tryd.underlying5 Tryd.underlying6 Tryd.underlying7 Tryd.underlying8 Tryd.underlying9 Tryd.underlying10 Tryd.underlying11 Tryd.underlying12 Tryd.underlying13 Tryd.underlying14 Tryd.underlying15 Tryd.underlying16 Tryd.underlying17 Tryd.underlying18 Tryd.underlying19 Tryd.underlying20 Tryd.underlying21 Tryd.underlying22 Tryd.underlying23 Tryd.underlying24 Tryd.underlying25 Tryd.underlying26 Tryd.underlying28 Tryd.underlying29 Tryd.underlying30 Tryd.underlying31 Tryd.underlying32 Tryd.underlying33 Tryd.underlying34 Tryd.underlying35 Tryd.underlying36 Tryd.underlying37 Tryd.underlying38 Tryd.underlying39 Tryd.underlying40 Tryd.underlying41 Tryd.underlying42 Tryd.underlying43 Tryd.underlying45 Tryd.underlying46 Tryd.underlying47 Tryd.underlying48 Tryd.underlying49 Tryd.underlying50 Tryd.underlying51 Tryd.underlying52 Tryd.underlying53 Tryd.underlying54 Tryd.underlying55 Tryd.underlying56 Tryd.underlying57 Tryd.underlying58 Tryd.underlying59 Tryd.underlying60 Tryd.underlying61 Tryd.underlying62 Tryd.underlying63 Tryd.underlying64 Tryd.underlying65 Tryd.underlying66 Tryd.underlying67 Tryd.underlying68 Tryd.underlying69 Tryd.underlying70 Tryd.underlying71 Tryd.underlying72 Tryd.underlying73 Tryd.underlying74 Tryd.underlying75 Tryd.underlying76 Tryd.underlying77 Tryd.underlying79 Tryd.underlying80 Tryd.underlying81 Tryd.underlying82 Tryd.underlying83 Tryd.underlying85 Tryd.underlying86 Tryd.underlying87 Tryd.underlying88 Tryd.underlying89 Tryd.underlying90 Tryd.underlying91 Tryd.underlying92 Tryd.underlying93 Tryd.underlying94 Tryd.underlying95 Tryd.underlying96 Tryd.underlying98 Tryd.underlying99 Tryd.underlying100 Tryd.underlying101 Tryd.underlying102 Tryd.underlying103 Tryd.underlying104 Tryd.underlying105 Tryd.underlying106 Tryd.underlying107 Tryd.underlying108 Tryd.underlying109 Tryd.underlying110 Tryd.underlying111 Tryd.underlying113 Tryd.underlying114 Tryd.underlying115 Tryd.underlying116 Tryd.underlying117 Tryd.underlying118 Tryd.underlying119 Tryd.underlying120 Tryd.underlying121 Tryd.underlying122 Tryd.underlying123 Tryd.underlying124 Tryd.underlying125 Tryd.underlying126 Tryd.underlying127 Tryd.underlying128 Tryd.underlying129 Tryd.underlying130 Tryd.underlying131 Tryd.underlying132 Tryd.underlying133 Tryd.underlying134 Tryd.underlying135 Tryd.underlying136 Tryd.underlying137 Tryd.underlying138 Tryd.underlying139 Tryd.underlying140 Tryd.underlying141 Tryd.underlying142 Tryd.underlying143 Tryd.underlying144 Tryd.underlying145 Tryd.underlying146 Tryd.underlying147 Tryd.underlying149 Tryd.underlying150 Tryd.underlying151 Tryd.underlying152 Tryd.underlying153 Tryd.underlying154 Tryd.underlying155 Tryd.underlying156 Tryd.underlying157 Tryd.underlying158 Tryd.underlying159 Tryd.underlying160 Tryd.underlying161 Tryd.underlying162 Tryd.underlying163 Tryd.underlying164 Tryd.underlying165 Tryd.underlying166 Tryd.underlying167 Tryd.underlying168 Tryd.underlying169 Tryd.underlying170 Tryd.underlying172 Tryd.underlying173 Tryd.underlying174 Tryd.underlying175 Tryd.underlying177 Tryd.underlying178 Tryd.underlying179 Tryd.underlying180 Tryd.underlying181 Tryd.underlying182 Tryd.underlying183 Tryd.underlying184 Tryd.underlying185 Tryd.underlying186 Tryd.underlying187 Tryd.underlying188 Tryd.underlying189 Tryd.underlying190 Tryd.underlying191 Tryd.underlying192 Tryd.underlying193 Tryd.underlying194 Tryd.underlying195 Tryd.underlying196 Tryd.underlying197 Tryd.underlying198 Tryd.underlying199 Tryd.underlying200 Tryd.underlying201 Tryd.underlying202 Tryd.underlying203 Tryd.underlying204 Tryd.underlying205 Tryd.underlying206 Tryd.underlying207 Tryd.underlying208 Tryd.underlying209 Tryd.underlying210 Tryd.underlying211 Tryd.underlying212 Tryd.underlying213 Tryd.underlying214 Tryd.underlying215 Tryd.underlying216 Tryd.underlying217 Tryd.underlying218 Tryd.underlying219 Tryd.underlying220 Tryd.underlying221 Tryd.underlying222 Tryd.underlying223 Tryd.underlying224 Tryd.underlying225 Tryd.underlying226 Tryd.underlying227 Tryd.underlying228 Tryd.underlying229 Tryd.underlying230 Tryd.underlying231 Tryd.underlying232 Tryd.underlying233 Tryd.underlying234
end Go.Proofs
end
section
set_option linter.all false
namespace Go.Hw

class TEnc (α : Type) [Enc α] where
  ot : α → List OT
  olen : ∀ x, (ot x).length = Enc.sz α
  ocv : ∀ x, (ot x).map otCV = Enc.enc x
def otL {α : Type} [Enc α] [TEnc α] (l : List α) : List OT := l.flatMap TEnc.ot
theorem otCV_g : ∀ l : List OT, otCV.go l = l.map otCV
  | [] => rfl
  | t :: r => by rw [List.map_cons, otCV.go, otCV_g r]
theorem otA_cv (t : OT) : (otA t).cv = some (otCV t) := by cases t <;> rfl
theorem cvs_otA : ∀ l : List OT, cvs (l.map otA) = some (l.map otCV)
  | [] => rfl
  | t :: r => by rw [List.map_cons, cvs, otA_cv, cvs_otA r]; rfl
theorem otC_otA (t : OT) : otC (otA t) = some t := by cases t <;> rfl
theorem otCs_otA : ∀ l : List OT, otCs (l.map otA) = some l
  | [] => rfl
  | t :: r => by rw [List.map_cons, otCs, otC_otA, otCs_otA r]
instance {α : Type} [Enc α] [TEnc α] : OEnc α := ⟨fun x => (TEnc.ot x).map otA, fun x => by rw [List.length_map, TEnc.olen], fun x => by rw [cvs_otA, TEnc.ocv], fun x c hc => by
  obtain ⟨t, _, rfl⟩ := List.mem_map.1 hc
  cases t with
  | p c => exact .inl ⟨c, rfl⟩
  | sp a b c => exact .inr ⟨_, rfl⟩
  | sl a b c => exact .inr ⟨_, rfl⟩⟩
section
variable {α : Type} [Enc α] [TEnc α]
theorem oenc_t (x : α) : OEnc.oenc x = (TEnc.ot x).map otA := rfl
@[simp] theorem otL_nil : otL ([] : List α) = [] := rfl
theorem otL_cons (x : α) (l : List α) : otL (x :: l) = TEnc.ot x ++ otL l := rfl
@[simp] theorem otL_map (l : List α) : (otL l).map otA = oencL l := by
  induction l with
  | nil => rfl
  | cons x l ih => rw [otL_cons, List.map_append, ih]; rfl
@[simp] theorem oencL_takeN [Globals] (l : List α) {n : Nat} (h : Enc.sz α = n) : (oencL l).take (l.length * n) = oencL l := by
  subst h; exact List.take_of_length_le (by rw [oencL_length]; exact Nat.le_refl _)
@[simp] theorem oencL_otCs (l : List α) : otCs (oencL l) = some (otL l) := by rw [← otL_map, otCs_otA]
theorem otL_cv (l : List α) : (otL l).map otCV = encL l := by
  induction l with
  | nil => rfl
  | cons x l ih => rw [otL_cons, List.map_append, ih, TEnc.ocv]; rfl
@[simp] theorem otL_go (l : List α) : otCV.go (otL l) = encL l := by rw [otCV_g, otL_cv]
end
end Go.Hw
end
section
set_option linter.all false
namespace Go.Hw
variable [Globals] {α : Type} [Enc α] [OEnc α]
/-- An element whose first c cells are deep. -/
def partL (c : Nat) (x : α) : List AC := (OEnc.oenc x).take c ++ ((Enc.enc x).map AC.p).drop c
def mixP (n c : Nat) (l : List α) : List AC := oencL (l.take n) ++ (((l.drop n).take 1).flatMap (partL c) ++ (encL (l.drop (n + 1))).map .p)
theorem partL_len (c : Nat) (x : α) : (partL c x).length = Enc.sz α := by
  simp [partL, OEnc.olen, Enc.len]; omega
theorem partL_zero (x : α) : partL 0 x = (Enc.enc x).map AC.p := by simp [partL]
theorem mixP_at {n c : Nat} {l : List α} {x : α} (hx : l[n]? = some x) : mixP n c l = oencL (l.take n) ++ (partL c x ++ (encL (l.drop (n + 1))).map .p) := by
  obtain ⟨hlt, rfl⟩ := List.getElem?_eq_some_iff.1 hx
  unfold mixP
  have e : List.take 1 (List.drop n l) = [l[n]] := by rw [List.drop_eq_getElem_cons hlt]; rfl
  rw [e]; simp
theorem mixL_at {n : Nat} {l : List α} {x : α} (hx : l[n]? = some x) : mixL n l = oencL (l.take n) ++ (partL 0 x ++ (encL (l.drop (n + 1))).map .p) := by
  obtain ⟨hlt, rfl⟩ := List.getElem?_eq_some_iff.1 hx
  unfold mixL
  rw [List.drop_eq_getElem_cons hlt, encL_cons, List.map_append, partL_zero]
theorem mixP_zero {n : Nat} {l : List α} {x : α} (hx : l[n]? = some x) : mixL n l = mixP n 0 l := by rw [mixP_at hx, mixL_at hx]
theorem mixP_len {n c : Nat} {l : List α} {x : α} (hx : l[n]? = some x) : (mixP n c l).length = l.length * Enc.sz α := by
  rw [← mixL_length n l, mixP_at hx, mixL_at hx]; simp [partL_len]
theorem mixP_get {l : List α} {n c : Nat} {x : α} (hx : l[n]? = some x) {f : Nat} {a : AC} (hf : f < Enc.sz α) (h : (partL c x)[f]? = some a) : (mixP n c l)[n * Enc.sz α + f]? = some a := by
  have hlt : n < l.length := (List.getElem?_eq_some_iff.1 hx).1
  have h1 : (oencL (l.take n)).length = n * Enc.sz α := by rw [oencL_length, List.length_take]; congr 1; omega
  rw [mixP_at hx, List.getElem?_append_right (by omega), h1, Nat.add_sub_cancel_left, List.getElem?_append_left (by rw [partL_len]; exact hf), h]
theorem mixP_set0 {l : List α} {n c : Nat} {x : α} (hx : l[n]? = some x) {f : Nat} {v : AC} (hf : f < Enc.sz α) {r : List AC} (h : (partL c x).set f v = r) :
    (mixP n c l).set (n * Enc.sz α + f) v = oencL (l.take n) ++ (r ++ (encL (l.drop (n + 1))).map .p) := by
  have hlt : n < l.length := (List.getElem?_eq_some_iff.1 hx).1
  have h1 : (oencL (l.take n)).length = n * Enc.sz α := by rw [oencL_length, List.length_take]; congr 1; omega
  rw [mixP_at hx, List.set_append_right _ _ (by omega), h1, Nat.add_sub_cancel_left, List.set_append_left _ _ (by rw [partL_len]; exact hf), h]
theorem mixP_set {l : List α} {n c d : Nat} {x y : α} (hx : l[n]? = some x) {f : Nat} {v : AC} (hf : f < Enc.sz α) (h : (partL c x).set f v = partL d y) :
    (mixP n c l).set (n * Enc.sz α + f) v = mixP n d (l.set n y) := by
  have hlt : n < l.length := (List.getElem?_eq_some_iff.1 hx).1
  rw [mixP_set0 hx hf h, mixP_at (x := y) (by simp [hlt])]
  simp [List.take_set_of_le, List.drop_set_of_lt]
theorem mixP_fin {l : List α} {n c : Nat} {x y : α} (hx : l[n]? = some x) {f : Nat} {v : AC} (hf : f < Enc.sz α) (h : (partL c x).set f v = OEnc.oenc y) :
    (mixP n c l).set (n * Enc.sz α + f) v = mixL (n + 1) (l.set n y) := by
  have hlt : n < l.length := (List.getElem?_eq_some_iff.1 hx).1
  rw [mixP_set0 hx hf h]
  have e1 : (l.set n y).take (n + 1) = l.take n ++ [y] := by
    rw [List.take_succ_eq_append_getElem (by simpa using hlt)]; simp [List.take_set_of_le]
  unfold mixL
  rw [e1]; simp [List.drop_set_of_lt]
theorem AC_ren_oenc (x : α) (a b : Id) : (OEnc.oenc x).map (AC.ren a b) = OEnc.oenc x := by
  have := oencL_ren [x] a b; simpa using this
@[simp] theorem mixP_ren (n c : Nat) (l : List α) (x y : Id) : (mixP n c l).map (AC.ren x y) = mixP n c l := by
  unfold mixP
  rw [List.map_append, oencL_ren, List.map_append, List.map_map]
  congr 2
  rw [List.map_flatMap]
  congr 1; funext v
  unfold partL
  rw [List.map_append, List.map_take, AC_ren_oenc, List.map_drop, List.map_map]
  congr 1
end Go.Hw
end
section
set_option linter.all false
namespace Go.Dc
open Go Go.Hw Go.Proofs
set_option maxRecDepth 100000
@[simp] theorem enc_Arr_5_List_ByteArray (x : Arr 5 (List ByteArray)) : Enc.enc x = [.sl (x.f 0).length (encL (x.f 0)), .sl (x.f 1).length (encL (x.f 1)), .sl (x.f 2).length (encL (x.f 2)), .sl (x.f 3).length (encL (x.f 3)), .sl (x.f 4).length (encL (x.f 4))] := rfl
@[simp] theorem sz_Arr_5_List_ByteArray : Enc.sz (Arr 5 (List ByteArray)) = 5 := rfl
structure Expr where
  Kind : Int
  N : Int
  Name : ByteArray
  Fn : Int
  Args : List Expr
  deriving Inhabited
mutual
def Expr.e : Expr → List CV
  | ⟨a0, a1, a2, a3, a4⟩ => [.c (.int .i64 a0), .c (.int .i64 a1), .c (.string a2), .c (.int .i64 a3), .sl a4.length (Expr.eL a4)]
def Expr.eL : List Expr → List CV
  | [] => []
  | x :: l => Expr.e x ++ Expr.eL l
end
theorem Expr.e_eq (x : Expr) : Expr.e x = [.c (.int .i64 x.Kind), .c (.int .i64 x.N), .c (.string x.Name), .c (.int .i64 x.Fn), .sl x.Args.length (Expr.eL x.Args)] := by cases x; rw [Expr.e]
instance : Enc Expr := ⟨5, Expr.e, fun x => by rw [Expr.e_eq]; rfl⟩
theorem Expr.eL_eq : ∀ l : List Expr, Expr.eL l = encL l
  | [] => by rw [Expr.eL]; rfl
  | x :: l => by rw [Expr.eL, Expr.eL_eq l]; rfl
@[simp] theorem enc_Expr (x : Expr) : Enc.enc x = [.c (.int .i64 x.Kind), .c (.int .i64 x.N), .c (.string x.Name), .c (.int .i64 x.Fn), .sl x.Args.length (encL x.Args)] := by
  simp only [← Expr.eL_eq]; exact Expr.e_eq x
@[simp] theorem sz_Expr : Enc.sz Expr = 5 := rfl
mutual
def Expr.o : Expr → List OT
  | ⟨a0, a1, a2, a3, a4⟩ => [.p (.c (.int .i64 a0)), .p (.c (.int .i64 a1)), .p (.c (.string a2)), .p (.c (.int .i64 a3)), .sl 5 a4.length (Expr.oL a4)]
def Expr.oL : List Expr → List OT
  | [] => []
  | x :: l => Expr.o x ++ Expr.oL l
end
theorem Expr.o_eq (x : Expr) : Expr.o x = [.p (.c (.int .i64 x.Kind)), .p (.c (.int .i64 x.N)), .p (.c (.string x.Name)), .p (.c (.int .i64 x.Fn)), .sl 5 x.Args.length (Expr.oL x.Args)] := by cases x; rw [Expr.o]
mutual
theorem Expr.o_cv : ∀ x : Expr, (Expr.o x).map otCV = Expr.e x
  | ⟨a0, a1, a2, a3, a4⟩ => by
    rw [Expr.o, Expr.e]; simp only [List.map_cons, List.map_nil, otCV, otCV_g, otL_cv, Expr.oL_cv]
theorem Expr.oL_cv : ∀ l : List Expr, (Expr.oL l).map otCV = Expr.eL l
  | [] => by rw [Expr.oL, Expr.eL]; rfl
  | x :: l => by rw [Expr.oL, Expr.eL, List.map_append, Expr.o_cv x, Expr.oL_cv l]
end
instance : TEnc Expr := ⟨Expr.o, fun x => by rw [Expr.o_eq]; rfl, Expr.o_cv⟩
theorem Expr.oL_eq : ∀ l : List Expr, Expr.oL l = otL l
  | [] => by rw [Expr.oL]; rfl
  | x :: l => by rw [Expr.oL, Expr.oL_eq l]; rfl
@[simp] theorem ot_Expr (x : Expr) : TEnc.ot x = [.p (.c (.int .i64 x.Kind)), .p (.c (.int .i64 x.N)), .p (.c (.string x.Name)), .p (.c (.int .i64 x.Fn)), .sl 5 x.Args.length (otL x.Args)] := by
  simp only [← Expr.oL_eq]; exact Expr.o_eq x
@[simp] theorem oenc_Expr (x : Expr) : OEnc.oenc x = [.p (.c (.int .i64 x.Kind)), .p (.c (.int .i64 x.N)), .p (.c (.string x.Name)), .p (.c (.int .i64 x.Fn)), .own (.sl 5 x.Args.length (otL x.Args))] := by rw [oenc_t, ot_Expr]; rfl
structure Stmt where
  Kind : Int
  Name : ByteArray
  Obj : ByteArray
  Other : ByteArray
  Fn : Int
  Order : Int
  Exprs : List Expr
  Body : List Stmt
  Else : List Stmt
  deriving Inhabited
mutual
def Stmt.e : Stmt → List CV
  | ⟨a0, a1, a2, a3, a4, a5, a6, a7, a8⟩ => [.c (.int .i64 a0), .c (.string a1), .c (.string a2), .c (.string a3), .c (.int .i64 a4), .c (.int .i64 a5), .sl a6.length (encL a6), .sl a7.length (Stmt.eL a7), .sl a8.length (Stmt.eL a8)]
def Stmt.eL : List Stmt → List CV
  | [] => []
  | x :: l => Stmt.e x ++ Stmt.eL l
end
theorem Stmt.e_eq (x : Stmt) : Stmt.e x = [.c (.int .i64 x.Kind), .c (.string x.Name), .c (.string x.Obj), .c (.string x.Other), .c (.int .i64 x.Fn), .c (.int .i64 x.Order), .sl x.Exprs.length (encL x.Exprs), .sl x.Body.length (Stmt.eL x.Body), .sl x.Else.length (Stmt.eL x.Else)] := by cases x; rw [Stmt.e]
instance : Enc Stmt := ⟨9, Stmt.e, fun x => by rw [Stmt.e_eq]; rfl⟩
theorem Stmt.eL_eq : ∀ l : List Stmt, Stmt.eL l = encL l
  | [] => by rw [Stmt.eL]; rfl
  | x :: l => by rw [Stmt.eL, Stmt.eL_eq l]; rfl
@[simp] theorem enc_Stmt (x : Stmt) : Enc.enc x = [.c (.int .i64 x.Kind), .c (.string x.Name), .c (.string x.Obj), .c (.string x.Other), .c (.int .i64 x.Fn), .c (.int .i64 x.Order), .sl x.Exprs.length (encL x.Exprs), .sl x.Body.length (encL x.Body), .sl x.Else.length (encL x.Else)] := by
  simp only [← Stmt.eL_eq]; exact Stmt.e_eq x
@[simp] theorem sz_Stmt : Enc.sz Stmt = 9 := rfl
mutual
def Stmt.o : Stmt → List OT
  | ⟨a0, a1, a2, a3, a4, a5, a6, a7, a8⟩ => [.p (.c (.int .i64 a0)), .p (.c (.string a1)), .p (.c (.string a2)), .p (.c (.string a3)), .p (.c (.int .i64 a4)), .p (.c (.int .i64 a5)), .sl 5 a6.length (otL a6), .sl 9 a7.length (Stmt.oL a7), .sl 9 a8.length (Stmt.oL a8)]
def Stmt.oL : List Stmt → List OT
  | [] => []
  | x :: l => Stmt.o x ++ Stmt.oL l
end
theorem Stmt.o_eq (x : Stmt) : Stmt.o x = [.p (.c (.int .i64 x.Kind)), .p (.c (.string x.Name)), .p (.c (.string x.Obj)), .p (.c (.string x.Other)), .p (.c (.int .i64 x.Fn)), .p (.c (.int .i64 x.Order)), .sl 5 x.Exprs.length (otL x.Exprs), .sl 9 x.Body.length (Stmt.oL x.Body), .sl 9 x.Else.length (Stmt.oL x.Else)] := by cases x; rw [Stmt.o]
mutual
theorem Stmt.o_cv : ∀ x : Stmt, (Stmt.o x).map otCV = Stmt.e x
  | ⟨a0, a1, a2, a3, a4, a5, a6, a7, a8⟩ => by
    rw [Stmt.o, Stmt.e]; simp only [List.map_cons, List.map_nil, otCV, otCV_g, otL_cv, Stmt.oL_cv]
theorem Stmt.oL_cv : ∀ l : List Stmt, (Stmt.oL l).map otCV = Stmt.eL l
  | [] => by rw [Stmt.oL, Stmt.eL]; rfl
  | x :: l => by rw [Stmt.oL, Stmt.eL, List.map_append, Stmt.o_cv x, Stmt.oL_cv l]
end
instance : TEnc Stmt := ⟨Stmt.o, fun x => by rw [Stmt.o_eq]; rfl, Stmt.o_cv⟩
theorem Stmt.oL_eq : ∀ l : List Stmt, Stmt.oL l = otL l
  | [] => by rw [Stmt.oL]; rfl
  | x :: l => by rw [Stmt.oL, Stmt.oL_eq l]; rfl
@[simp] theorem ot_Stmt (x : Stmt) : TEnc.ot x = [.p (.c (.int .i64 x.Kind)), .p (.c (.string x.Name)), .p (.c (.string x.Obj)), .p (.c (.string x.Other)), .p (.c (.int .i64 x.Fn)), .p (.c (.int .i64 x.Order)), .sl 5 x.Exprs.length (otL x.Exprs), .sl 9 x.Body.length (otL x.Body), .sl 9 x.Else.length (otL x.Else)] := by
  simp only [← Stmt.oL_eq]; exact Stmt.o_eq x
@[simp] theorem oenc_Stmt (x : Stmt) : OEnc.oenc x = [.p (.c (.int .i64 x.Kind)), .p (.c (.string x.Name)), .p (.c (.string x.Obj)), .p (.c (.string x.Other)), .p (.c (.int .i64 x.Fn)), .p (.c (.int .i64 x.Order)), .own (.sl 5 x.Exprs.length (otL x.Exprs)), .own (.sl 9 x.Body.length (otL x.Body)), .own (.sl 9 x.Else.length (otL x.Else))] := by rw [oenc_t, ot_Stmt]; rfl
structure Proc where
  Name : ByteArray
  Param : ByteArray
  Body : List Stmt
  deriving Inhabited
instance : Enc Proc := ⟨3, fun x => [.c (.string x.Name), .c (.string x.Param), .sl x.Body.length (encL x.Body)], fun _ => rfl⟩
@[simp] theorem enc_Proc (x : Proc) : Enc.enc x = [.c (.string x.Name), .c (.string x.Param), .sl x.Body.length (encL x.Body)] := rfl
@[simp] theorem sz_Proc : Enc.sz Proc = 3 := rfl
instance : TEnc Proc := ⟨fun x => [.p (.c (.string x.Name)), .p (.c (.string x.Param)), .sl 9 x.Body.length (otL x.Body)], fun x => rfl, fun x => by simp only [List.map_cons, List.map_nil, otCV, otCV_g, otL_cv]; rfl⟩
@[simp] theorem ot_Proc (x : Proc) : TEnc.ot x = [.p (.c (.string x.Name)), .p (.c (.string x.Param)), .sl 9 x.Body.length (otL x.Body)] := rfl
@[simp] theorem oenc_Proc (x : Proc) : OEnc.oenc x = [.p (.c (.string x.Name)), .p (.c (.string x.Param)), .own (.sl 9 x.Body.length (otL x.Body))] := by rw [oenc_t, ot_Proc]; rfl
structure Launch where
  Proc : ByteArray
  Arg : Int
  deriving Inhabited
instance : Enc Launch := ⟨2, fun x => [.c (.string x.Proc), .c (.int .i64 x.Arg)], fun _ => rfl⟩
@[simp] theorem enc_Launch (x : Launch) : Enc.enc x = [.c (.string x.Proc), .c (.int .i64 x.Arg)] := rfl
@[simp] theorem sz_Launch : Enc.sz Launch = 2 := rfl
structure Var where
  Name : ByteArray
  Init : Int
  deriving Inhabited
instance : Enc Var := ⟨2, fun x => [.c (.string x.Name), .c (.int .i64 x.Init)], fun _ => rfl⟩
@[simp] theorem enc_Var (x : Var) : Enc.enc x = [.c (.string x.Name), .c (.int .i64 x.Init)] := rfl
@[simp] theorem sz_Var : Enc.sz Var = 2 := rfl
structure UnitT where
  Vars : List Var
  Mutexes : List ByteArray
  Conds : List ByteArray
  Procs : List Proc
  Threads : List Launch
  deriving Inhabited
instance : Enc UnitT := ⟨5, fun x => [.sl x.Vars.length (encL x.Vars), .sl x.Mutexes.length (encL x.Mutexes), .sl x.Conds.length (encL x.Conds), .sl x.Procs.length (encL x.Procs), .sl x.Threads.length (encL x.Threads)], fun _ => rfl⟩
@[simp] theorem enc_UnitT (x : UnitT) : Enc.enc x = [.sl x.Vars.length (encL x.Vars), .sl x.Mutexes.length (encL x.Mutexes), .sl x.Conds.length (encL x.Conds), .sl x.Procs.length (encL x.Procs), .sl x.Threads.length (encL x.Threads)] := rfl
@[simp] theorem sz_UnitT : Enc.sz UnitT = 5 := rfl
structure AstChecker where
  objects : Arr 5 (List ByteArray)
  locals : List ByteArray
  deriving Inhabited
instance : Enc AstChecker := ⟨6, fun x => [.sl (x.objects.f 0).length (encL (x.objects.f 0)), .sl (x.objects.f 1).length (encL (x.objects.f 1)), .sl (x.objects.f 2).length (encL (x.objects.f 2)), .sl (x.objects.f 3).length (encL (x.objects.f 3)), .sl (x.objects.f 4).length (encL (x.objects.f 4)), .sl x.locals.length (encL x.locals)], fun _ => rfl⟩
@[simp] theorem enc_AstChecker (x : AstChecker) : Enc.enc x = [.sl (x.objects.f 0).length (encL (x.objects.f 0)), .sl (x.objects.f 1).length (encL (x.objects.f 1)), .sl (x.objects.f 2).length (encL (x.objects.f 2)), .sl (x.objects.f 3).length (encL (x.objects.f 3)), .sl (x.objects.f 4).length (encL (x.objects.f 4)), .sl x.locals.length (encL x.locals)] := rfl
@[simp] theorem sz_AstChecker : Enc.sz AstChecker = 6 := rfl
instance : OEnc AstChecker := ⟨fun x => [.own (.sp 1 (x.objects.f 0).length (encL (x.objects.f 0))), .own (.sp 1 (x.objects.f 1).length (encL (x.objects.f 1))), .own (.sp 1 (x.objects.f 2).length (encL (x.objects.f 2))), .own (.sp 1 (x.objects.f 3).length (encL (x.objects.f 3))), .own (.sp 1 (x.objects.f 4).length (encL (x.objects.f 4))), .own (.sp 1 x.locals.length (encL x.locals))], fun _ => rfl, fun _ => rfl, fun x c hc => by simp at hc; rcases hc with rfl | rfl | rfl | rfl | rfl | rfl <;> first | exact .inl ⟨_, rfl⟩ | exact .inr ⟨_, rfl⟩⟩
@[simp] theorem oenc_AstChecker (x : AstChecker) : OEnc.oenc x = [.own (.sp 1 (x.objects.f 0).length (encL (x.objects.f 0))), .own (.sp 1 (x.objects.f 1).length (encL (x.objects.f 1))), .own (.sp 1 (x.objects.f 2).length (encL (x.objects.f 2))), .own (.sp 1 (x.objects.f 3).length (encL (x.objects.f 3))), .own (.sp 1 (x.objects.f 4).length (encL (x.objects.f 4))), .own (.sp 1 x.locals.length (encL x.locals))] := rfl
structure AstUse where
  obj : Int
  order : Bool
  exprs : Int
  deriving Inhabited
instance : Enc AstUse := ⟨3, fun x => [.c (.int .i64 x.obj), .c (.bool x.order), .c (.int .i64 x.exprs)], fun _ => rfl⟩
@[simp] theorem enc_AstUse (x : AstUse) : Enc.enc x = [.c (.int .i64 x.obj), .c (.bool x.order), .c (.int .i64 x.exprs)] := rfl
@[simp] theorem sz_AstUse : Enc.sz AstUse = 3 := rfl
structure R16C where
  Vars : List ByteArray
  U : UnitT
  Procs : List ByteArray
  Locals : List ByteArray
  At : Int
  deriving Inhabited
instance : Enc R16C := ⟨9, fun x => [.sl x.Vars.length (encL x.Vars), .sl x.U.Vars.length (encL x.U.Vars), .sl x.U.Mutexes.length (encL x.U.Mutexes), .sl x.U.Conds.length (encL x.U.Conds), .sl x.U.Procs.length (encL x.U.Procs), .sl x.U.Threads.length (encL x.U.Threads), .sl x.Procs.length (encL x.Procs), .sl x.Locals.length (encL x.Locals), .c (.int .i64 x.At)], fun _ => rfl⟩
@[simp] theorem enc_R16C (x : R16C) : Enc.enc x = [.sl x.Vars.length (encL x.Vars), .sl x.U.Vars.length (encL x.U.Vars), .sl x.U.Mutexes.length (encL x.U.Mutexes), .sl x.U.Conds.length (encL x.U.Conds), .sl x.U.Procs.length (encL x.U.Procs), .sl x.U.Threads.length (encL x.U.Threads), .sl x.Procs.length (encL x.Procs), .sl x.Locals.length (encL x.Locals), .c (.int .i64 x.At)] := rfl
@[simp] theorem sz_R16C : Enc.sz R16C = 9 := rfl
def keywordsTab : List ByteArray := [⟨#[118, 97, 114]⟩, ⟨#[109, 117, 116, 101, 120]⟩, ⟨#[99, 111, 110, 100]⟩, ⟨#[112, 114, 111, 99]⟩, ⟨#[116, 104, 114, 101, 97, 100]⟩, ⟨#[108, 111, 97, 100]⟩, ⟨#[115, 116, 111, 114, 101]⟩, ⟨#[115, 119, 97, 112]⟩, ⟨#[102, 101, 116, 99, 104, 97, 100, 100]⟩, ⟨#[99, 97, 115]⟩, ⟨#[102, 101, 110, 99, 101]⟩, ⟨#[97, 119, 97, 105, 116]⟩, ⟨#[108, 111, 99, 107]⟩, ⟨#[117, 110, 108, 111, 99, 107]⟩, ⟨#[116, 114, 121, 108, 111, 99, 107]⟩, ⟨#[119, 97, 105, 116]⟩, ⟨#[115, 105, 103, 110, 97, 108]⟩, ⟨#[98, 114, 111, 97, 100, 99, 97, 115, 116]⟩, ⟨#[115, 112, 97, 119, 110]⟩, ⟨#[106, 111, 105, 110]⟩, ⟨#[97, 115, 115, 101, 114, 116]⟩, ⟨#[105, 102]⟩, ⟨#[101, 108, 115, 101]⟩, ⟨#[119, 104, 105, 108, 101]⟩, ⟨#[114, 101, 116, 117, 114, 110]⟩, ⟨#[112, 108, 97, 105, 110]⟩, ⟨#[114, 101, 108, 97, 120, 101, 100]⟩, ⟨#[114, 101, 108, 97, 99, 113]⟩, ⟨#[97, 100, 100]⟩, ⟨#[115, 117, 98]⟩, ⟨#[109, 117, 108]⟩, ⟨#[97, 110, 100]⟩, ⟨#[111, 114]⟩, ⟨#[120, 111, 114]⟩, ⟨#[101, 113]⟩, ⟨#[110, 101]⟩, ⟨#[108, 116]⟩, ⟨#[108, 101]⟩]
@[simp] theorem keywordsTab_len : keywordsTab.length = 38 := rfl
@[simp] theorem keywordsTab_take : List.take 38 (encL keywordsTab) = encL keywordsTab := by rfl
instance : Globals where
  G := fun g => if g = 1 then some (encL keywordsTab) else none
@[simp] theorem glob1 : Globals.G 1 = some (encL keywordsTab) := rfl
end Go.Dc
end
section
set_option linter.all false
namespace Go.Dc
open Go Go.Hw Go.Proofs
set_option maxRecDepth 100000

def program_letter (a0 : UInt8) : Option Bool :=
  some (orB (andB (!(ltI (a0.toNat : Int) 97)) (!(ltI 122 (a0.toNat : Int)))) (andB (!(ltI (a0.toNat : Int) 65)) (!(ltI 90 (a0.toNat : Int)))))

set_option maxHeartbeats 2000000 in
theorem at_program_letter {a0 : UInt8} {r : Bool} (hs : program_letter a0 = some r) : At Tryd.prog 185 [iV .u8 (a0.toNat : Int)] (bV r) := by
  refine at_bound (by kernel_rfl) fun hb => ?_
  refine at_code mixed Tryd.func185 (by kernel_rfl) rfl (by kernel_rfl) rfl fun Q hQ => ?_
  rw [program_letter] at hs
  refine goG f0 f0 ?_
  obtain rfl := sj hs
  exact hQ _ _ (rg f0 (Gh.refl _))
end Go.Dc
end
section
set_option linter.all false
namespace Go.Dc
open Go Go.Hw Go.Proofs
set_option maxRecDepth 100000
def program_ValidName_L1 (a0 : ByteArray) : Nat → Nat → Option (Unit ⊕ Bool)
  | 0, k49 => some (.inl ())
  | q63 + 1, k49 => Option.bind (a0[k49]?) (fun c68 => Option.bind (program_letter c68) (fun y70 => cond (andB (andB (!y70) (!(eqI (c68.toNat : Int) 95))) (orB (ltI (c68.toNat : Int) 48) (ltI 57 (c68.toNat : Int)))) (some (.inr false)) (program_ValidName_L1 a0 q63 (k49 + 1))))

def program_ValidName (a0 : ByteArray) : Option Bool :=
  guardO (orB (!(!(orB (ltI ((a0.size : Nat) : Int) 1) (ltI 16 ((a0.size : Nat) : Int))))) (inB ((0 : Nat) : Int) a0.size)) (guardO (orB (!(!(orB (ltI ((a0.size : Nat) : Int) 1) (ltI 16 ((a0.size : Nat) : Int))))) ((program_letter (bget a0 0)).isSome)) (cond (orB (orB (ltI ((a0.size : Nat) : Int) 1) (ltI 16 ((a0.size : Nat) : Int))) (!((program_letter (bget a0 0)).getD default))) (some false) (Option.bind (α := Unit ⊕ Bool) (guardO (lenB a0.size) (Option.bind (program_ValidName_L1 a0 a0.size 0) (fun o => match o with | .inl _ => some (.inl ()) | .inr r73 => some (.inr r73)))) (fun o => match o with | .inl _ => some true | .inr r74 => some r74))))

set_option maxHeartbeats 2000000 in
theorem at_program_ValidName {a0 : ByteArray} {r : Bool} (hs : program_ValidName a0 = some r) : At Tryd.prog 157 [sV a0] (bV r) := by
  refine at_bound (by kernel_rfl) fun hb => ?_
  refine at_code mixed Tryd.func157 (by kernel_rfl) rfl (by kernel_rfl) rfl fun Q hQ => ?_
  rw [program_ValidName] at hs
  obtain ⟨g1, hs⟩ := guardO_some hs
  have g1a : (!(orB (ltI ((a0.size : Nat) : Int) 1) (ltI 16 ((a0.size : Nat) : Int)))) = true → 0 ≤ ((0 : Nat) : Int) := fun hg => (under_byte g1 hg).1
  have g1c : (!(orB (ltI ((a0.size : Nat) : Int) 1) (ltI 16 ((a0.size : Nat) : Int)))) = true → a0[0]? = some (bget a0 0) := fun hg => by simpa using (under_byte g1 hg).2.2
  have F1 := an g1a g1c
  refine goG F1 F1 ?_
  obtain ⟨g2, hs⟩ := guardO_some hs
  refine gsel_call (fun hg => at_program_letter (under_call g2 hg)) (fun hg => by (try simp at hg); (first | simp [hg, F1]); try rfl) (fun hg => by (try simp at hg); simp [hg, F1]) (by simp) ?_
  refine goG F1 F1 ?_
  revert hs; refine cS F1 ?_ ?_ <;> intro h3 hs
  · refine goG F1 F1 ?_
    obtain rfl := sj hs
    exact hQ _ _ (rg F1 (Gh.refl _))
  · refine goG2 F1 F1 ?_
    revert hs; refine bK fun o38 e37 hs => ?_
    refine awp_cutK (fun (v : Unit) (σ : St) => some (.inl v) = some o38 ∧ 3 ≤ σ.gen) (by rfl) (fun Q hK39 hX40 => ?_) (fun v σ3 hp => ?_)
    · refine goG F1 F1 ?_
      obtain ⟨hb67, e37⟩ := guardO_some e37
      revert e37; refine bK fun o58 e57 e37 => ?_
      refine awp_loopW (fun (v : Nat × Nat) (σ : St) => program_ValidName_L1 a0 v.1 v.2 = some o58 ∧ v.1 + v.2 = a0.size ∧ σ.env 0 = sV a0 ∧ σ.env 19 = iV .i64 ((a0.size : Nat) : Int) ∧ σ.env 20 = iV .i64 ((v.2 : Nat) : Int) ∧ 3 ≤ σ.gen) (fun v => v.1) _ (Gh.refl _) (a0.size, 0) ⟨e57, by first | omega | simp | (simp; omega), pv F1, pv F1, pv F1, pg⟩ fun v σ6 hp L59 hL60 => ?_
      obtain ⟨q62, k49⟩ := v
      dsimp only at hp hL60
      obtain ⟨e57, hd61, h5_0, h5_19, h5_20, n5_g⟩ := hp
      rcases q62 with _ | q63
      · have hlt64 : ¬ k49 < a0.size := by omega
        rw [program_ValidName_L1] at e57; try dsimp only at e57
        have F2 := an h5_0 (an h5_19 (an h5_20 (an g1a g1c)))
        refine goR F2 ?_
        refine condK_f (by simp [ltI]; omega) ?_
        obtain rfl := sj e57
        try dsimp only at e37
        exact hK39 () _ _ (Gh.refl _) ⟨e37, pg⟩
      · have hlt64 : k49 < a0.size := by omega
        have ew65 := wrap_succG hlt64 hb67
        rw [program_ValidName_L1] at e57; try dsimp only at e57
        have F3 := an h5_0 (an h5_19 (an h5_20 (an g1a (an g1c (an hlt64 ew65)))))
        refine goR F3 ?_
        refine condK_t (by simp [ltI]; omega) ?_
        revert e57; refine bK fun c68 hx69 e57 => ?_
        have hx69b := getB_some hx69
        have hx69g := getB_eq hx69
        have F4 := an F3 (an hx69 hx69g)
        refine goR F4 ?_
        revert e57; refine bK fun y70 hx71 e57 => ?_
        refine cP F4 (at_program_letter hx71) ?_
        refine goG F4 F4 ?_
        revert e57; refine cS F4 ?_ ?_ <;> intro h72 e57
        · refine goG F4 F4 ?_
          obtain rfl := sj e57
          try dsimp only at e37
          obtain rfl := sj e37
          try dsimp only at hs
          refine hX40 _ _ (by simp) ?_
          refine goG F4 F4 ?_
          obtain rfl := sj hs
          exact hQ _ _ (rg F4 (Gh.refl _))
        · refine goG F4 F4 ?_
          exact hL60 (q63, (k49 + 1)) _ _ (Gh.refl _) ⟨e57, (by first | omega | (simp; omega)), pv F4, pv F4, pv F4, pg⟩ (by omega)
    · obtain ⟨e37, n4_g⟩ := hp
      obtain rfl := sj e37
      try dsimp only at hs
      refine goG F1 F1 ?_
      obtain rfl := sj hs
      exact hQ _ _ (rg F1 (Gh.refl _))
end Go.Dc
end
section
set_option linter.all false
namespace Go.Dc
open Go Go.Hw Go.Proofs
set_option maxRecDepth 100000
def slices_Index_string_L1 (a1 : ByteArray) : List ByteArray → Nat → Option (Unit ⊕ Int)
  | [], k41 => some (.inl ())
  | x58 :: q54, k41 => cond (eqS a1 x58) (some (.inr ((k41 : Nat) : Int))) (slices_Index_string_L1 a1 q54 (k41 + 1))

def slices_Index_string (a0 : List ByteArray) (a1 : ByteArray) : Option Int :=
  Option.bind (α := Unit ⊕ Int) (Option.bind (slices_Index_string_L1 a1 a0 0) (fun o => match o with | .inl _ => some (.inl ()) | .inr r62 => some (.inr r62))) (fun o => match o with | .inl _ => some (-1) | .inr r63 => some r63)

set_option maxHeartbeats 2000000 in
theorem at_slices_Index_string {a0 : List ByteArray} {a1 : ByteArray} {r : Int} (hs : slices_Index_string a0 a1 = some r) : At Tryd.prog 121 [.cell (sC a0), sV a1] (iV .i64 r) := by
  refine at_bound (by kernel_rfl) fun hb => ?_
  have hb1 : LenOk (.sl a0.length (encL a0)) := lkc hb
  refine at_code mixed Tryd.func121 (by kernel_rfl) rfl (by kernel_rfl) rfl fun Q hQ => ?_
  rw [slices_Index_string] at hs
  refine goR2 f0 ?_
  revert hs; refine bK fun o31 e30 hs => ?_
  refine awp_cutK (fun (v : Unit) (σ : St) => some (.inl v) = some o31 ∧ 2 ≤ σ.gen) (by rfl) (fun Q hK32 hX33 => ?_) (fun v σ3 hp => ?_)
  · refine goR f0 ?_
    revert e30; refine bK fun o49 e48 e30 => ?_
    refine awp_loopW (fun (v : (List ByteArray) × Nat) (σ : St) => slices_Index_string_L1 a1 v.1 v.2 = some o49 ∧ v.1 = a0.drop v.2 ∧ σ.env 0 = .cell (sC a0) ∧ σ.env 1 = sV a1 ∧ σ.env 7 = iV .i64 ((a0.length : Nat) : Int) ∧ σ.env 8 = iV .i64 ((v.2 : Nat) : Int) ∧ 2 ≤ σ.gen) (fun v => v.1.length) _ (Gh.refl _) (a0, 0) ⟨e48, by simp, pv f0, pv f0, pv f0, pv f0, pg⟩ fun v σ6 hp L50 hL51 => ?_
    obtain ⟨q53, k41⟩ := v
    dsimp only at hp hL51
    obtain ⟨e48, hd52, h5_0, h5_1, h5_7, h5_8, n5_g⟩ := hp
    rcases q53 with _ | ⟨x58, q54⟩
    · have hlt55 := drop_end hd52
      rw [slices_Index_string_L1] at e48; try dsimp only at e48
      have F1 := an h5_0 (an h5_1 (an h5_7 h5_8))
      refine goR F1 ?_
      refine condK_f (by simp [ltI]; omega) ?_
      obtain rfl := sj e48
      try dsimp only at e30
      exact hK32 () _ _ (Gh.refl _) ⟨e30, pg⟩
    · obtain ⟨hx57, hlt55, hd59⟩ := drop_next hd52
      have ew56 := wrap_succ hlt55 (hb1).len
      rw [slices_Index_string_L1] at e48; try dsimp only at e48
      have F2 := an h5_0 (an h5_1 (an h5_7 (an h5_8 (an hlt55 ew56))))
      refine goR F2 ?_
      refine condK_t (by simp [ltI]; omega) ?_
      have f60 : partCV Tryd.prog 9 (encL a0) (k41) = some (sV x58) := partCV_enc1 hx57 (by simp)
      have F3 := an F2 f60
      refine goR F3 ?_
      revert e48; refine cS F3 ?_ ?_ <;> intro h61 e48
      · refine goR F3 ?_
        obtain rfl := sj e48
        try dsimp only at e30
        obtain rfl := sj e30
        try dsimp only at hs
        refine hX33 _ _ (by simp) ?_
        refine goR F3 ?_
        obtain rfl := sj hs
        exact hQ _ _ (rg F3 (Gh.refl _))
      · refine goR F3 ?_
        exact hL51 (q54, (k41 + 1)) _ _ (Gh.refl _) ⟨e48, hd59, pv F3, pv F3, pv F3, pv F3, pg⟩ (by simp)
  · obtain ⟨e30, n4_g⟩ := hp
    obtain rfl := sj e30
    try dsimp only at hs
    refine goR f0 ?_
    obtain rfl := sj hs
    exact hQ _ _ (rg f0 (Gh.refl _))
end Go.Dc
end
section
set_option linter.all false
namespace Go.Dc
open Go Go.Hw Go.Proofs
set_option maxRecDepth 100000

def slices_Contains_string (a0 : List ByteArray) (a1 : ByteArray) : Option Bool :=
  Option.bind (slices_Index_string a0 a1) (fun y1 => some (!(ltI y1 0)))

set_option maxHeartbeats 2000000 in
theorem at_slices_Contains_string {a0 : List ByteArray} {a1 : ByteArray} {r : Bool} (hs : slices_Contains_string a0 a1 = some r) : At Tryd.prog 71 [.cell (sC a0), sV a1] (bV r) := by
  refine at_bound (by kernel_rfl) fun hb => ?_
  have hb1 : LenOk (.sl a0.length (encL a0)) := lkc hb
  refine at_code mixed Tryd.func71 (by kernel_rfl) rfl (by kernel_rfl) rfl fun Q hQ => ?_
  rw [slices_Contains_string] at hs
  refine goR f0 ?_
  revert hs; refine bK fun y1 hx2 hs => ?_
  refine cP f0 (at_slices_Index_string hx2) ?_
  refine goR f0 ?_
  obtain rfl := sj hs
  exact hQ _ _ (rg f0 (Gh.refl _))
end Go.Dc
end
section
set_option linter.all false
namespace Go.Dc
open Go Go.Hw Go.Proofs
set_option maxRecDepth 100000

def ast_validName (a0 : ByteArray) : Option Bool :=
  Option.bind (program_ValidName a0) (fun y1 => guardO (orB (!y1) ((slices_Contains_string keywordsTab a0).isSome)) (some (andB y1 (!((slices_Contains_string keywordsTab a0).getD default)))))

set_option maxHeartbeats 2000000 in
theorem at_ast_validName {a0 : ByteArray} {r : Bool} (hs : ast_validName a0 = some r) : At Tryd.prog 119 [sV a0] (bV r) := by
  refine at_bound (by kernel_rfl) fun hb => ?_
  refine at_code mixed Tryd.func119 (by kernel_rfl) rfl (by kernel_rfl) rfl fun Q hQ => ?_
  rw [ast_validName] at hs
  refine goR f0 ?_
  revert hs; refine bK fun y1 hx2 hs => ?_
  refine cP f0 (at_program_ValidName hx2) ?_
  refine goG f0 f0 ?_
  obtain ⟨g3, hs⟩ := guardO_some hs
  refine gsel_call (fun hg => at_slices_Contains_string (under_call g3 hg)) (fun hg => by (try simp at hg); (first | simp [hg, id]); try rfl) (fun hg => by (try simp at hg); simp [hg, id]) (by simp) ?_
  refine goG f0 f0 ?_
  obtain rfl := sj hs
  exact hQ _ _ (rg f0 (Gh.refl _))
end Go.Dc
end
section
set_option linter.all false
namespace Go.Dc
open Go Go.Hw Go.Proofs
set_option maxRecDepth 100000
def r08_ValidName_L1 (a0 : ByteArray) : Nat → Nat → Option (Unit ⊕ Bool)
  | 0, k39 => some (.inl ())
  | q51 + 1, k39 => Option.bind (a0[k39]?) (fun c56 => cond (andB (!(orB (andB (!(ltI (c56.toNat : Int) 97)) (!(ltI 122 (c56.toNat : Int)))) (andB (!(ltI (c56.toNat : Int) 65)) (!(ltI 90 (c56.toNat : Int)))))) (orB (eqI ((k39 : Nat) : Int) 0) (andB (!(eqI (c56.toNat : Int) 95)) (orB (ltI (c56.toNat : Int) 48) (ltI 57 (c56.toNat : Int)))))) (some (.inr false)) (r08_ValidName_L1 a0 q51 (k39 + 1)))

def r08_ValidName (a0 : ByteArray) : Option Bool :=
  cond (orB (ltI ((a0.size : Nat) : Int) 1) (ltI 16 ((a0.size : Nat) : Int))) (some false) (Option.bind (α := Unit ⊕ Bool) (guardO (lenB a0.size) (Option.bind (r08_ValidName_L1 a0 a0.size 0) (fun o => match o with | .inl _ => some (.inl ()) | .inr r59 => some (.inr r59)))) (fun o => match o with | .inl _ => some true | .inr r60 => some r60))

end Go.Dc
end
section
set_option linter.all false
namespace Go.Dc
open Go Go.Hw Go.Proofs
set_option maxRecDepth 100000

def r16_Keywords  : Option (List ByteArray) :=
  Option.bind (some ([(⟨#[118, 97, 114]⟩ : ByteArray), (⟨#[109, 117, 116, 101, 120]⟩ : ByteArray), (⟨#[99, 111, 110, 100]⟩ : ByteArray), (⟨#[112, 114, 111, 99]⟩ : ByteArray), (⟨#[116, 104, 114, 101, 97, 100]⟩ : ByteArray), (⟨#[108, 111, 97, 100]⟩ : ByteArray), (⟨#[115, 116, 111, 114, 101]⟩ : ByteArray), (⟨#[115, 119, 97, 112]⟩ : ByteArray), (⟨#[102, 101, 116, 99, 104, 97, 100, 100]⟩ : ByteArray), (⟨#[99, 97, 115]⟩ : ByteArray), (⟨#[102, 101, 110, 99, 101]⟩ : ByteArray), (⟨#[97, 119, 97, 105, 116]⟩ : ByteArray), (⟨#[108, 111, 99, 107]⟩ : ByteArray), (⟨#[117, 110, 108, 111, 99, 107]⟩ : ByteArray), (⟨#[116, 114, 121, 108, 111, 99, 107]⟩ : ByteArray), (⟨#[119, 97, 105, 116]⟩ : ByteArray), (⟨#[115, 105, 103, 110, 97, 108]⟩ : ByteArray), (⟨#[98, 114, 111, 97, 100, 99, 97, 115, 116]⟩ : ByteArray), (⟨#[115, 112, 97, 119, 110]⟩ : ByteArray), (⟨#[106, 111, 105, 110]⟩ : ByteArray), (⟨#[97, 115, 115, 101, 114, 116]⟩ : ByteArray), (⟨#[105, 102]⟩ : ByteArray), (⟨#[101, 108, 115, 101]⟩ : ByteArray), (⟨#[119, 104, 105, 108, 101]⟩ : ByteArray), (⟨#[114, 101, 116, 117, 114, 110]⟩ : ByteArray), (⟨#[112, 108, 97, 105, 110]⟩ : ByteArray), (⟨#[114, 101, 108, 97, 120, 101, 100]⟩ : ByteArray), (⟨#[114, 101, 108, 97, 99, 113]⟩ : ByteArray), (⟨#[97, 100, 100]⟩ : ByteArray), (⟨#[115, 117, 98]⟩ : ByteArray), (⟨#[109, 117, 108]⟩ : ByteArray), (⟨#[97, 110, 100]⟩ : ByteArray), (⟨#[111, 114]⟩ : ByteArray), (⟨#[120, 111, 114]⟩ : ByteArray), (⟨#[101, 113]⟩ : ByteArray), (⟨#[110, 101]⟩ : ByteArray), (⟨#[108, 116]⟩ : ByteArray), (⟨#[108, 101]⟩ : ByteArray)])) (fun l1 => some l1)

end Go.Dc
end
section
set_option linter.all false
namespace Go.Dc
open Go Go.Hw Go.Proofs
set_option maxRecDepth 100000
def r16_in_L1 (a1 : ByteArray) : List ByteArray → Nat → Option (Unit ⊕ Bool)
  | [], k41 => some (.inl ())
  | x58 :: q54, k41 => cond (eqS x58 a1) (some (.inr true)) (r16_in_L1 a1 q54 (k41 + 1))

def r16_in (a0 : List ByteArray) (a1 : ByteArray) : Option Bool :=
  Option.bind (α := Unit ⊕ Bool) (Option.bind (r16_in_L1 a1 a0 0) (fun o => match o with | .inl _ => some (.inl ()) | .inr r62 => some (.inr r62))) (fun o => match o with | .inl _ => some false | .inr r63 => some r63)

end Go.Dc
end
section
set_option linter.all false
namespace Go.Dc
open Go Go.Hw Go.Proofs
set_option maxRecDepth 100000

def r16_Name (a0 : ByteArray) : Option Bool :=
  Option.bind (r08_ValidName a0) (fun y1 => guardO (orB (!y1) ((r16_Keywords).isSome)) (guardO (orB (!y1) ((r16_in ((r16_Keywords).getD default) a0).isSome)) (some (andB y1 (!((r16_in ((r16_Keywords).getD default) a0).getD default))))))

end Go.Dc
end
section
set_option linter.all false
namespace Go.Dc
open Go Go.Hw Go.Proofs
set_option maxRecDepth 100000
def law16_has_L1 (a1 : ByteArray) : List ByteArray → Nat → Option (Unit ⊕ Bool)
  | [], k41 => some (.inl ())
  | x58 :: q54, k41 => cond (eqS x58 a1) (some (.inr true)) (law16_has_L1 a1 q54 (k41 + 1))

def law16_has (a0 : List ByteArray) (a1 : ByteArray) : Option Bool :=
  Option.bind (α := Unit ⊕ Bool) (Option.bind (law16_has_L1 a1 a0 0) (fun o => match o with | .inl _ => some (.inl ()) | .inr r62 => some (.inr r62))) (fun o => match o with | .inl _ => some false | .inr r63 => some r63)

end Go.Dc
end
section
set_option linter.all false
namespace Go.Dc.Pl
open Go Go.Hw Go.Dc
theorem eqI_d (a b : Int) : eqI a b = decide (a = b) := by simp [eqI, Bool.beq_eq_decide_eq]
theorem ltI_d (a b : Int) : ltI a b = decide (a < b) := rfl
theorem andB_d (a b : Bool) : andB a b = (a && b) := rfl
theorem orB_d (a b : Bool) : orB a b = (a || b) := rfl
theorem lenB_d (n : Nat) : lenB n = decide (n ≤ 1099511627776) := rfl
/-- What a byte of a name may not be. -/
def badC (k : Nat) (c : UInt8) : Bool := andB (!(orB (andB (!(ltI (c.toNat : Int) 97)) (!(ltI 122 (c.toNat : Int)))) (andB (!(ltI (c.toNat : Int) 65)) (!(ltI 90 (c.toNat : Int)))))) (orB (eqI ((k : Nat) : Int) 0) (andB (!(eqI (c.toNat : Int) 95)) (orB (ltI (c.toNat : Int) 48) (ltI 57 (c.toNat : Int)))))
def okName (s : ByteArray) : Bool := decide (1 ≤ s.size ∧ s.size ≤ 16) && !(((List.replicate s.size ()).zipIdx 0).any fun x => badC x.2 (bget s x.2))
def badP (c : UInt8) : Bool := andB (andB (!(orB (andB (!(ltI (c.toNat : Int) 97)) (!(ltI 122 (c.toNat : Int)))) (andB (!(ltI (c.toNat : Int) 65)) (!(ltI 90 (c.toNat : Int)))))) (!(eqI (c.toNat : Int) 95))) (orB (ltI (c.toNat : Int) 48) (ltI 57 (c.toNat : Int)))
def letr (c : UInt8) : Bool := orB (andB (!(ltI (c.toNat : Int) 97)) (!(ltI 122 (c.toNat : Int)))) (andB (!(ltI (c.toNat : Int) 65)) (!(ltI 90 (c.toNat : Int))))
/-- Whether a word is on a list. -/
def isIn (l : List ByteArray) (s : ByteArray) : Bool := l.any (eqS s)
/-- A name that is no keyword. -/
def okWord (s : ByteArray) : Bool := andB (okName s) (!(isIn keywordsTab s))
end Go.Dc.Pl
end
section
set_option linter.all false
namespace Go.Dc
open Go Go.Hw Go.Proofs
set_option maxRecDepth 100000
def r16_nodes_L1 (a0 : List Expr) (a1 : Int) (rF76z : (List Expr) → Int → Option Int) : Nat → Int → Int → Option Int
  | 0, _, _ => none
  | q66 + 1, i50, i51 => cond (andB (ltI i51 ((a0.length : Nat) : Int)) (ltI 0 a1)) (Option.bind (getI a0 i51) (fun x71 => Option.bind (rF76z x71.Args (IntKind.i64.wrap (a1 - 1))) (fun y74 => r16_nodes_L1 a0 a1 rF76z q66 (IntKind.i64.wrap (i50 + y74)) (IntKind.i64.wrap (i51 + 1))))) (some (i50))

def r16_nodes_B (rF76z : (List Expr) → Int → Option Int) (fuelN : Nat) (a0 : List Expr) (a1 : Int) : Option Int :=
  Option.bind (α := Int) (Option.bind (r16_nodes_L1 a0 a1 rF76z fuelN ((a0.length : Nat) : Int) 0) (fun i59 => some (i59))) (fun i36 => cond (andB (eqI a1 0) (ltI 0 i36)) (some 1000000) (some i36))

def r16_nodes : Nat → (List Expr) → Int → Option Int
  | 0 => fun _ _ => none
  | fuelN + 1 => fun a0 a1 => r16_nodes_B (r16_nodes fuelN) fuelN a0 a1

set_option maxHeartbeats 2000000 in
theorem at_r16_nodes_B {rF76z : (List Expr) → Int → Option Int} (ihrF76z : ∀ (a0 : List Expr) (a1 : Int) (r : Int), rF76z a0 a1 = some r → At Tryd.prog 76 [.cell (sC a0), iV .i64 a1] (iV .i64 r)) {fuelN : Nat} {a0 : List Expr} {a1 : Int} {r : Int} (hs : r16_nodes_B rF76z fuelN a0 a1 = some r) : At Tryd.prog 76 [.cell (sC a0), iV .i64 a1] (iV .i64 r) := by
  refine at_bound (by kernel_rfl) fun hb => ?_
  have hb1 : LenOk (.sl a0.length (encL a0)) := lkc hb
  refine at_code mixed Tryd.func76 (by kernel_rfl) rfl (by kernel_rfl) rfl fun Q hQ => ?_
  rw [r16_nodes_B] at hs
  refine goR2 f0 ?_
  revert hs; refine bK fun o38 e37 hs => ?_
  refine awp_cutK (fun (v : Int) (σ : St) => some (v) = some o38 ∧ σ.env 1 = iV .i64 a1 ∧ σ.env 5 = iV .i64 v ∧ 3 ≤ σ.gen) (by rfl) (fun Q hK39 hX40 => ?_) (fun i36 σ3 hp => ?_)
  · refine goR f0 ?_
    revert e37; refine bK fun o61 e60 e37 => ?_
    refine awp_loopW (fun (v : Nat × Int × Int) (σ : St) => r16_nodes_L1 a0 a1 rF76z v.1 v.2.1 v.2.2 = some o61 ∧ σ.env 0 = .cell (sC a0) ∧ σ.env 1 = iV .i64 a1 ∧ σ.env 5 = iV .i64 v.2.1 ∧ σ.env 6 = iV .i64 v.2.2 ∧ 3 ≤ σ.gen) (fun v => v.1) _ (Gh.refl _) (fuelN, ((a0.length : Nat) : Int), 0) ⟨e60, pv f0, pv f0, pv f0, pv f0, pg⟩ fun v σ6 hp L62 hL63 => ?_
    obtain ⟨q65, i50, i51⟩ := v
    dsimp only at hp hL63
    obtain ⟨e60, h5_0, h5_1, h5_5, h5_6, n5_g⟩ := hp
    rcases q65 with _ | q66
    · rw [r16_nodes_L1] at e60; cases e60
    · rw [r16_nodes_L1] at e60; try dsimp only at e60
      have F1 := an h5_0 (an h5_1 (an h5_5 h5_6))
      refine goG F1 F1 ?_
      revert e60; refine cS F1 ?_ ?_ <;> intro h70 e60
      · revert e60; refine bK fun x71 hx72 e60 => ?_
        obtain ⟨hx72a, hx72b, hx72c, hx72d⟩ := getI_some hx72
        have f73 : partCV Tryd.prog 48 (encL a0) (((i51).toNat) * 5 + 4) = some (.cell (sC x71.Args)) := partCV_enc hx72d (f := 4) (by simp)
        have F2 := an F1 f73
        have F3 := an F2 (an hx72a hx72b)
        refine goG F2 F3 ?_
        revert e60; refine bK fun y74 hx75 e60 => ?_
        refine cP F2 (ihrF76z _ _ _ hx75) ?_
        refine goG F2 F3 ?_
        exact hL63 (q66, IntKind.i64.wrap (i50 + y74), IntKind.i64.wrap (i51 + 1)) _ _ (Gh.refl _) ⟨e60, pv F2, pv F2, pv F2, pv F2, pg⟩ (by omega)
      · refine goG F1 F1 ?_
        obtain rfl := sj e60
        try dsimp only at e37
        exact hK39 i50 _ _ (Gh.refl _) ⟨e37, pv F1, pv F1, pg⟩
  · obtain ⟨e37, h4_1, h4_5, n4_g⟩ := hp
    obtain rfl := sj e37
    try dsimp only at hs
    have F4 := an h4_1 h4_5
    refine goG F4 F4 ?_
    revert hs; refine cS F4 ?_ ?_ <;> intro h76 hs
    · refine goG F4 F4 ?_
      obtain rfl := sj hs
      exact hQ _ _ (rg F4 (Gh.refl _))
    · refine goG F4 F4 ?_
      obtain rfl := sj hs
      exact hQ _ _ (rg F4 (Gh.refl _))
theorem at_r16_nodes : ∀ {fuelN : Nat} {a0 : List Expr} {a1 : Int} {r : Int} (hs : r16_nodes fuelN a0 a1 = some r), At Tryd.prog 76 [.cell (sC a0), iV .i64 a1] (iV .i64 r)
  | 0, _, _, _, hs => by rw [r16_nodes] at hs; cases hs
  | n + 1, _, _, _, hs => by
    rw [r16_nodes] at hs
    exact at_r16_nodes_B (fun _ _ _ h => at_r16_nodes h) hs
end Go.Dc
end
section
set_option linter.all false
namespace Go.Dc
open Go Go.Hw Go.Proofs
set_option maxRecDepth 100000

def r16_FewExpr (fuelN : Nat) (a0 : Expr) : Option Bool :=
  Option.bind (some ([a0])) (fun l1 => Option.bind (r16_nodes fuelN l1 40) (fun y3 => some (!(ltI 300 y3))))

end Go.Dc
end
section
set_option linter.all false
namespace Go.Dc
open Go Go.Hw Go.Proofs
set_option maxRecDepth 100000
def ast_Depth_L1 (rF33z : Expr → Option Int) : List Expr → Int → Nat → Option Int
  | [], i67, k68 => some (i67)
  | x87 :: q83, i67, k68 => Option.bind (rF33z x87) (fun y90 => ast_Depth_L1 rF33z q83 (if y90 > i67 then y90 else i67) (k68 + 1))

def ast_Depth_B (rF33z : Expr → Option Int) (a0 : Expr) : Option Int :=
  Option.bind (α := Int) (Option.bind (ast_Depth_L1 rF33z a0.Args 0 0) (fun i76 => some (i76))) (fun i44 => some (IntKind.i64.wrap (i44 + 1)))

def ast_Depth : Nat → Expr → Option Int
  | 0 => fun _ => none
  | fuelN + 1 => fun a0 => ast_Depth_B (ast_Depth fuelN) a0

set_option maxHeartbeats 2000000 in
theorem at_ast_Depth_B {rF33z : Expr → Option Int} (ihrF33z : ∀ (a0 : Expr) (r : Int), rF33z a0 = some r → At Tryd.prog 33 [.agg (eA a0)] (iV .i64 r)) {a0 : Expr} {r : Int} (hs : ast_Depth_B rF33z a0 = some r) : At Tryd.prog 33 [.agg (eA a0)] (iV .i64 r) := by
  refine at_bound (by kernel_rfl) fun hb => ?_
  have hb1 : LenOk (.sl a0.Args.length (encL a0.Args)) := lkc hb
  refine at_code mixed Tryd.func33 (by kernel_rfl) rfl (by kernel_rfl) rfl fun Q hQ => ?_
  rw [ast_Depth_B] at hs
  refine goR2 f0 ?_
  revert hs; refine bK fun o46 e45 hs => ?_
  refine awp_cutK (fun (v : Int) (σ : St) => some (v) = some o46 ∧ σ.env 3 = iV .i64 v ∧ 3 ≤ σ.gen) (by rfl) (fun Q hK47 hX48 => ?_) (fun i44 σ3 hp => ?_)
  · refine goR f0 ?_
    revert e45; refine bK fun o78 e77 e45 => ?_
    refine awp_loopW (fun (v : (List Expr) × Int × Nat) (σ : St) => ast_Depth_L1 rF33z v.1 v.2.1 v.2.2 = some o78 ∧ v.1 = a0.Args.drop v.2.2 ∧ σ.env 3 = iV .i64 v.2.1 ∧ σ.env 7 = .cell (sC a0.Args) ∧ σ.env 8 = iV .i64 ((a0.Args.length : Nat) : Int) ∧ σ.env 9 = iV .i64 ((v.2.2 : Nat) : Int) ∧ 3 ≤ σ.gen) (fun v => v.1.length) _ (Gh.refl _) (a0.Args, 0, 0) ⟨e77, by simp, pv f0, pv f0, pv f0, pv f0, pg⟩ fun v σ6 hp L79 hL80 => ?_
    obtain ⟨q82, i67, k68⟩ := v
    dsimp only at hp hL80
    obtain ⟨e77, hd81, h5_3, h5_7, h5_8, h5_9, n5_g⟩ := hp
    rcases q82 with _ | ⟨x87, q83⟩
    · have hlt84 := drop_end hd81
      rw [ast_Depth_L1] at e77; try dsimp only at e77
      have F1 := an h5_3 (an h5_7 (an h5_8 h5_9))
      refine goR F1 ?_
      refine condK_f (by simp [ltI]; omega) ?_
      obtain rfl := sj e77
      try dsimp only at e45
      exact hK47 i67 _ _ (Gh.refl _) ⟨e45, pv F1, pg⟩
    · obtain ⟨hx86, hlt84, hd88⟩ := drop_next hd81
      have ew85 := wrap_succ hlt84 (hb1).len
      rw [ast_Depth_L1] at e77; try dsimp only at e77
      have F2 := an h5_3 (an h5_7 (an h5_8 (an h5_9 (an hlt84 ew85))))
      refine goR F2 ?_
      refine condK_t (by simp [ltI]; omega) ?_
      have f89 : partCV Tryd.prog 50 (encL a0.Args) (k68 * 5) = some (.agg (eA x87)) := partCV_enc hx86 (f := 0) (by simp)
      have F3 := an F2 f89
      refine goR F3 ?_
      revert e77; refine bK fun y90 hx91 e77 => ?_
      refine cP F3 (ihrF33z _ _ hx91) ?_
      refine goR F3 ?_
      exact hL80 (q83, (if y90 > i67 then y90 else i67), (k68 + 1)) _ _ (Gh.refl _) ⟨e77, hd88, pv F3, pv F3, pv F3, pv F3, pg⟩ (by simp)
  · obtain ⟨e45, h4_3, n4_g⟩ := hp
    obtain rfl := sj e45
    try dsimp only at hs
    refine goR h4_3 ?_
    obtain rfl := sj hs
    exact hQ _ _ (rg h4_3 (Gh.refl _))
theorem at_ast_Depth : ∀ {fuelN : Nat} {a0 : Expr} {r : Int} (hs : ast_Depth fuelN a0 = some r), At Tryd.prog 33 [.agg (eA a0)] (iV .i64 r)
  | 0, _, _, hs => by rw [ast_Depth] at hs; cases hs
  | n + 1, _, _, hs => by
    rw [ast_Depth] at hs
    exact at_ast_Depth_B (fun _ _ h => at_ast_Depth h) hs
end Go.Dc
end
section
set_option linter.all false
namespace Go.Dc
open Go Go.Hw Go.Proofs
set_option maxRecDepth 100000
def ast_checkExpr_L1 (a1 : List ByteArray) (rF77z : Expr → (List ByteArray) → Option Int) : List Expr → Nat → Option (Unit ⊕ Int)
  | [], k82 => some (.inl ())
  | x101 :: q97, k82 => Option.bind (rF77z x101 a1) (fun y104 => cond (!(eqI y104 0)) (some (.inr y104)) (ast_checkExpr_L1 a1 rF77z q97 (k82 + 1)))

def ast_checkExpr_B (rF77z : Expr → (List ByteArray) → Option Int) (a0 : Expr) (a1 : List ByteArray) : Option Int :=
  cond (orB (ltI a0.Kind 1) (ltI 3 a0.Kind)) (some 8) (Option.bind (α := Nat) (cond (eqI a0.Kind 3) (some (2)) (some (0))) (fun k3 => cond (orB (orB (orB (andB (!(eqI a0.Kind 1)) (!(eqI a0.N 0))) (andB (!(eqI a0.Kind 2)) (!(eqS a0.Name (⟨#[]⟩ : ByteArray))))) (andB (!(eqI a0.Kind 3)) (!(eqI a0.Fn 0)))) (!(eqI ((a0.Args.length : Nat) : Int) ((k3 : Nat) : Int)))) (some 9) (Option.bind (α := Unit ⊕ Int) (cond (eqI a0.Kind 1) (cond (orB (ltI a0.N (-2147483648)) (ltI 2147483647 a0.N)) (some (.inr 2)) (some (.inl ()))) (cond (eqI a0.Kind 2) (Option.bind (ast_validName a0.Name) (fun y27 => cond (!y27) (some (.inr 6)) (Option.bind (slices_Contains_string a1 a0.Name) (fun y30 => cond (!y30) (some (.inr 11)) (some (.inl ())))))) (cond (orB (ltI a0.Fn 1) (ltI 10 a0.Fn)) (some (.inr 8)) (some (.inl ()))))) (fun o => match o with | .inl _ => Option.bind (α := Unit ⊕ Int) (Option.bind (ast_checkExpr_L1 a1 rF77z a0.Args 0) (fun o => match o with | .inl _ => some (.inl ()) | .inr r107 => some (.inr r107))) (fun o => match o with | .inl _ => some 0 | .inr r108 => some r108) | .inr r109 => some r109))))

def ast_checkExpr : Nat → Expr → (List ByteArray) → Option Int
  | 0 => fun _ _ => none
  | fuelN + 1 => fun a0 a1 => ast_checkExpr_B (ast_checkExpr fuelN) a0 a1

set_option maxHeartbeats 2000000 in
theorem at_ast_checkExpr_B {rF77z : Expr → (List ByteArray) → Option Int} (ihrF77z : ∀ (a0 : Expr) (a1 : List ByteArray) (r : Int), rF77z a0 a1 = some r → At Tryd.prog 77 [.agg (eA a0), .cell (sC a1)] (iV .i64 r)) {a0 : Expr} {a1 : List ByteArray} {r : Int} (hs : ast_checkExpr_B rF77z a0 a1 = some r) : At Tryd.prog 77 [.agg (eA a0), .cell (sC a1)] (iV .i64 r) := by
  refine at_bound (by kernel_rfl) fun hb => ?_
  have hb1 : LenOk (.sl a0.Args.length (encL a0.Args)) := lkc hb
  have hb2 : LenOk (.sl a1.length (encL a1)) := lkc hb
  refine at_code mixed Tryd.func77 (by kernel_rfl) rfl (by kernel_rfl) rfl fun Q hQ => ?_
  rw [ast_checkExpr_B] at hs
  refine goG f0 f0 ?_
  revert hs; refine cS f0 ?_ ?_ <;> intro h1 hs
  · refine goG f0 f0 ?_
    obtain rfl := sj hs
    exact hQ _ _ (rg f0 (Gh.refl _))
  · refine goG2 f0 f0 ?_
    revert hs; refine bK fun o5 e4 hs => ?_
    refine awp_cutK (fun (v : Nat) (σ : St) => some (v) = some o5 ∧ σ.env 1 = .cell (sC a1) ∧ σ.env 2 = .cell (.ref (.o 1 0 0) 0) ∧ σ.env 5 = iV .i64 ((v : Nat) : Int) ∧ σ.hp (.o 1 0 0) = some (.cells (eA a0)) ∧ 4 ≤ σ.gen) (by rfl) (fun Q hK6 hX7 => ?_) (fun k3 σ1 hp => ?_)
    · refine goG f0 f0 ?_
      revert e4; refine cS f0 ?_ ?_ <;> intro h8 e4
      · refine goG f0 f0 ?_
        exact hK6 2 _ _ (Gh.refl _) ⟨e4, pv f0, pv f0, pv f0, pv f0, pg⟩
      · refine goG f0 f0 ?_
        exact hK6 0 _ _ (Gh.refl _) ⟨e4, pv f0, pv f0, pv f0, pv f0, pg⟩
    · obtain ⟨e4, h2_1, h2_2, h2_5, g2_0, n2_g⟩ := hp
      obtain rfl := sj e4
      try dsimp only at hs
      have n2_0 : ¬ (σ1.gen = 0) := by omega
      have F1 := an h2_1 (an h2_2 (an h2_5 (an g2_0 n2_0)))
      refine goG F1 F1 ?_
      revert hs; refine cS F1 ?_ ?_ <;> intro h9 hs
      · refine goG F1 F1 ?_
        obtain rfl := sj hs
        exact hQ _ _ (rg F1 (Gh.refl _))
      · refine goG2 F1 F1 ?_
        revert hs; refine bK fun o21 e20 hs => ?_
        refine awp_cutK (fun (v : Unit) (σ : St) => some (.inl v) = some o21 ∧ σ.env 1 = .cell (sC a1) ∧ σ.env 2 = .cell (.ref (.o 1 0 0) 0) ∧ σ.hp (.o 1 0 0) = some (.cells (eA a0)) ∧ (σ1.gen + 2) ≤ σ.gen) (by rfl) (fun Q hK22 hX23 => ?_) (fun v σ3 hp => ?_)
        · refine goG F1 F1 ?_
          revert e20; refine cS F1 ?_ ?_ <;> intro h24 e20
          · refine goG F1 F1 ?_
            revert e20; refine cS F1 ?_ ?_ <;> intro h25 e20
            · refine goG F1 F1 ?_
              obtain rfl := sj e20
              try dsimp only at hs
              refine hX23 _ _ (by simp) ?_
              refine goG F1 F1 ?_
              obtain rfl := sj hs
              exact hQ _ _ (rg F1 (Gh.refl _))
            · refine goG F1 F1 ?_
              exact hK22 () _ _ (Gh.refl _) ⟨e20, pv F1, pv F1, pv F1, pg⟩
          · refine goG F1 F1 ?_
            revert e20; refine cS F1 ?_ ?_ <;> intro h26 e20
            · refine goG F1 F1 ?_
              revert e20; refine bK fun y27 hx28 e20 => ?_
              refine cP F1 (at_ast_validName hx28) ?_
              refine goG F1 F1 ?_
              revert e20; refine cS F1 ?_ ?_ <;> intro h29 e20
              · refine goG F1 F1 ?_
                obtain rfl := sj e20
                try dsimp only at hs
                refine hX23 _ _ (by simp) ?_
                refine goG F1 F1 ?_
                obtain rfl := sj hs
                exact hQ _ _ (rg F1 (Gh.refl _))
              · refine goG F1 F1 ?_
                revert e20; refine bK fun y30 hx31 e20 => ?_
                refine cP F1 (at_slices_Contains_string hx31) ?_
                refine goG F1 F1 ?_
                revert e20; refine cS F1 ?_ ?_ <;> intro h32 e20
                · refine goG F1 F1 ?_
                  obtain rfl := sj e20
                  try dsimp only at hs
                  refine hX23 _ _ (by simp) ?_
                  refine goG F1 F1 ?_
                  obtain rfl := sj hs
                  exact hQ _ _ (rg F1 (Gh.refl _))
                · refine goG F1 F1 ?_
                  exact hK22 () _ _ (Gh.refl _) ⟨e20, pv F1, pv F1, pv F1, pg⟩
            · refine goG F1 F1 ?_
              revert e20; refine cS F1 ?_ ?_ <;> intro h33 e20
              · refine goG F1 F1 ?_
                obtain rfl := sj e20
                try dsimp only at hs
                refine hX23 _ _ (by simp) ?_
                refine goG F1 F1 ?_
                obtain rfl := sj hs
                exact hQ _ _ (rg F1 (Gh.refl _))
              · refine goG F1 F1 ?_
                exact hK22 () _ _ (Gh.refl _) ⟨e20, pv F1, pv F1, pv F1, pg⟩
        · obtain ⟨e20, h4_1, h4_2, g4_0, n4_g⟩ := hp
          obtain rfl := sj e20
          try dsimp only at hs
          have n4_0 : ¬ (σ3.gen = 0) := by omega
          have F2 := an h4_1 (an h4_2 (an g4_0 n4_0))
          refine goG2 F2 F2 ?_
          revert hs; refine bK fun o70 e69 hs => ?_
          refine awp_cutK (fun (v : Unit) (σ : St) => some (.inl v) = some o70 ∧ (σ3.gen + 1) ≤ σ.gen) (by rfl) (fun Q hK71 hX72 => ?_) (fun v σ7 hp => ?_)
          · refine goG F2 F2 ?_
            revert e69; refine bK fun o92 e91 e69 => ?_
            refine awp_loopW (fun (v : (List Expr) × Nat) (σ : St) => ast_checkExpr_L1 a1 rF77z v.1 v.2 = some o92 ∧ v.1 = a0.Args.drop v.2 ∧ σ.env 1 = .cell (sC a1) ∧ σ.env 87 = .cell (sC a0.Args) ∧ σ.env 88 = iV .i64 ((a0.Args.length : Nat) : Int) ∧ σ.env 89 = iV .i64 ((v.2 : Nat) : Int) ∧ (σ3.gen + 1) ≤ σ.gen) (fun v => v.1.length) _ (Gh.refl _) (a0.Args, 0) ⟨e91, by simp, pv F2, pv F2, pv F2, pv F2, pg⟩ fun v σ10 hp L93 hL94 => ?_
            obtain ⟨q96, k82⟩ := v
            dsimp only at hp hL94
            obtain ⟨e91, hd95, h9_1, h9_87, h9_88, h9_89, n9_g⟩ := hp
            rcases q96 with _ | ⟨x101, q97⟩
            · have hlt98 := drop_end hd95
              rw [ast_checkExpr_L1] at e91; try dsimp only at e91
              have F3 := an h9_1 (an h9_87 (an h9_88 h9_89))
              refine goR F3 ?_
              refine condK_f (by simp [ltI]; omega) ?_
              obtain rfl := sj e91
              try dsimp only at e69
              exact hK71 () _ _ (Gh.refl _) ⟨e69, pg⟩
            · obtain ⟨hx100, hlt98, hd102⟩ := drop_next hd95
              have ew99 := wrap_succ hlt98 (hb1).len
              rw [ast_checkExpr_L1] at e91; try dsimp only at e91
              have F4 := an h9_1 (an h9_87 (an h9_88 (an h9_89 (an hlt98 ew99))))
              refine goR F4 ?_
              refine condK_t (by simp [ltI]; omega) ?_
              have f103 : partCV Tryd.prog 50 (encL a0.Args) (k82 * 5) = some (.agg (eA x101)) := partCV_enc hx100 (f := 0) (by simp)
              have F5 := an F4 f103
              refine goR F5 ?_
              revert e91; refine bK fun y104 hx105 e91 => ?_
              refine cP F5 (ihrF77z _ _ _ hx105) ?_
              refine goR F5 ?_
              revert e91; refine cS F5 ?_ ?_ <;> intro h106 e91
              · refine goR F5 ?_
                obtain rfl := sj e91
                try dsimp only at e69
                obtain rfl := sj e69
                try dsimp only at hs
                refine hX72 _ _ (by simp) ?_
                refine goR F5 ?_
                obtain rfl := sj hs
                exact hQ _ _ (rg F5 (Gh.refl _))
              · refine goR F5 ?_
                exact hL94 (q97, (k82 + 1)) _ _ (Gh.refl _) ⟨e91, hd102, pv F5, pv F5, pv F5, pv F5, pg⟩ (by simp)
          · obtain ⟨e69, n8_g⟩ := hp
            obtain rfl := sj e69
            try dsimp only at hs
            refine goG f0 f0 ?_
            obtain rfl := sj hs
            exact hQ _ _ (rg f0 (Gh.refl _))
theorem at_ast_checkExpr : ∀ {fuelN : Nat} {a0 : Expr} {a1 : List ByteArray} {r : Int} (hs : ast_checkExpr fuelN a0 a1 = some r), At Tryd.prog 77 [.agg (eA a0), .cell (sC a1)] (iV .i64 r)
  | 0, _, _, _, hs => by rw [ast_checkExpr] at hs; cases hs
  | n + 1, _, _, _, hs => by
    rw [ast_checkExpr] at hs
    exact at_ast_checkExpr_B (fun _ _ _ h => at_ast_checkExpr h) hs
end Go.Dc
end
section
set_option linter.all false
namespace Go.Dc
open Go Go.Hw Go.Proofs
set_option maxRecDepth 100000

def ast_CheckExpr (fuelN : Nat) (a0 : Expr) (a1 : List ByteArray) : Option Int :=
  Option.bind (ast_Depth fuelN a0) (fun y1 => cond (ltI 3 y1) (some 4) (Option.bind (ast_checkExpr fuelN a0 a1) (fun y4 => some y4)))

set_option maxHeartbeats 2000000 in
theorem at_ast_CheckExpr {fuelN : Nat} {a0 : Expr} {a1 : List ByteArray} {r : Int} (hs : ast_CheckExpr fuelN a0 a1 = some r) : At Tryd.prog 31 [.agg (eA a0), .cell (sC a1)] (iV .i64 r) := by
  refine at_bound (by kernel_rfl) fun hb => ?_
  have hb1 : LenOk (.sl a0.Args.length (encL a0.Args)) := lkc hb
  have hb2 : LenOk (.sl a1.length (encL a1)) := lkc hb
  refine at_code mixed Tryd.func31 (by kernel_rfl) rfl (by kernel_rfl) rfl fun Q hQ => ?_
  rw [ast_CheckExpr] at hs
  refine goR f0 ?_
  revert hs; refine bK fun y1 hx2 hs => ?_
  refine cP f0 (at_ast_Depth hx2) ?_
  refine goR f0 ?_
  revert hs; refine cS f0 ?_ ?_ <;> intro h3 hs
  · refine goR f0 ?_
    obtain rfl := sj hs
    exact hQ _ _ (rg f0 (Gh.refl _))
  · refine goR f0 ?_
    revert hs; refine bK fun y4 hx5 hs => ?_
    refine cP f0 (at_ast_checkExpr hx5) ?_
    refine goR f0 ?_
    obtain rfl := sj hs
    exact hQ _ _ (rg f0 (Gh.refl _))
end Go.Dc
end
section
set_option linter.all false
namespace Go.Dc
open Go Go.Hw Go.Proofs
set_option maxRecDepth 100000
def r16_Depth_L1 (rF34z : Expr → Option Int) : List Expr → Int → Nat → Option Int
  | [], i67, k68 => some (i67)
  | x87 :: q83, i67, k68 => Option.bind (rF34z x87) (fun y90 => r16_Depth_L1 rF34z q83 (if y90 > i67 then y90 else i67) (k68 + 1))

def r16_Depth_B (rF34z : Expr → Option Int) (a0 : Expr) : Option Int :=
  Option.bind (α := Int) (Option.bind (r16_Depth_L1 rF34z a0.Args 0 0) (fun i76 => some (i76))) (fun i44 => some (IntKind.i64.wrap (i44 + 1)))

def r16_Depth : Nat → Expr → Option Int
  | 0 => fun _ => none
  | fuelN + 1 => fun a0 => r16_Depth_B (r16_Depth fuelN) a0

end Go.Dc
end
section
set_option linter.all false
namespace Go.Dc
open Go Go.Hw Go.Proofs
set_option maxRecDepth 100000

def r16_value (a0 : Int) : Option Bool :=
  some (andB (!(ltI a0 (-2147483648))) (!(ltI 2147483647 a0)))

end Go.Dc
end
section
set_option linter.all false
namespace Go.Dc
open Go Go.Hw Go.Proofs
set_option maxRecDepth 100000
def r16_expr_L1 (a1 : List ByteArray) (rF78z : Expr → (List ByteArray) → Option Int) : List Expr → Nat → Option (Unit ⊕ Int)
  | [], k65 => some (.inl ())
  | x84 :: q80, k65 => Option.bind (rF78z x84 a1) (fun y87 => cond (!(eqI y87 0)) (some (.inr y87)) (r16_expr_L1 a1 rF78z q80 (k65 + 1)))

def r16_expr_B (rF78z : Expr → (List ByteArray) → Option Int) (a0 : Expr) (a1 : List ByteArray) : Option Int :=
  cond (orB (ltI a0.Kind 1) (ltI 3 a0.Kind)) (some 8) (Option.bind (α := Nat) (cond (eqI a0.Kind 3) (some (2)) (some (0))) (fun k3 => cond (orB (orB (orB (andB (!(eqI a0.Kind 1)) (!(eqI a0.N 0))) (andB (!(eqI a0.Kind 2)) (!(eqS a0.Name (⟨#[]⟩ : ByteArray))))) (andB (!(eqI a0.Kind 3)) (!(eqI a0.Fn 0)))) (!(eqI ((a0.Args.length : Nat) : Int) ((k3 : Nat) : Int)))) (some 9) (guardO (orB (!(eqI a0.Kind 1)) ((r16_value a0.N).isSome)) (cond (andB (eqI a0.Kind 1) (!((r16_value a0.N).getD default))) (some 2) (guardO (orB (!(eqI a0.Kind 2)) ((r16_Name a0.Name).isSome)) (cond (andB (eqI a0.Kind 2) (!((r16_Name a0.Name).getD default))) (some 6) (guardO (orB (!(eqI a0.Kind 2)) ((r16_in a1 a0.Name).isSome)) (cond (andB (eqI a0.Kind 2) (!((r16_in a1 a0.Name).getD default))) (some 11) (cond (andB (eqI a0.Kind 3) (orB (ltI a0.Fn 1) (ltI 10 a0.Fn))) (some 8) (Option.bind (α := Unit ⊕ Int) (Option.bind (r16_expr_L1 a1 rF78z a0.Args 0) (fun o => match o with | .inl _ => some (.inl ()) | .inr r90 => some (.inr r90))) (fun o => match o with | .inl _ => some 0 | .inr r91 => some r91)))))))))))

def r16_expr : Nat → Expr → (List ByteArray) → Option Int
  | 0 => fun _ _ => none
  | fuelN + 1 => fun a0 a1 => r16_expr_B (r16_expr fuelN) a0 a1

end Go.Dc
end
section
set_option linter.all false
namespace Go.Dc
open Go Go.Hw Go.Proofs
set_option maxRecDepth 100000

def r16_CheckExpr (fuelN : Nat) (a0 : Expr) (a1 : List ByteArray) : Option Int :=
  Option.bind (r16_Depth fuelN a0) (fun y1 => cond (ltI 3 y1) (some 4) (Option.bind (r16_expr fuelN a0 a1) (fun y4 => some y4)))

end Go.Dc
end
section
set_option linter.all false
namespace Go.Dc
open Go Go.Hw Go.Proofs
set_option maxRecDepth 100000
def law16_closed_L1 (a1 : List ByteArray) (rF97z : (List Expr) → (List ByteArray) → Option Bool) : List Expr → Nat → Option (Unit ⊕ Bool)
  | [], k57 => some (.inl ())
  | x78 :: q74, k57 => guardO (orB (!(eqI x78.Kind 2)) ((law16_has a1 x78.Name).isSome)) (guardO (orB (!(!(andB (eqI x78.Kind 2) (!((law16_has a1 x78.Name).getD default))))) ((rF97z x78.Args a1).isSome)) (cond (orB (andB (eqI x78.Kind 2) (!((law16_has a1 x78.Name).getD default))) (!((rF97z x78.Args a1).getD default))) (some (.inr false)) (law16_closed_L1 a1 rF97z q74 (k57 + 1))))

def law16_closed_B (rF97z : (List Expr) → (List ByteArray) → Option Bool) (a0 : List Expr) (a1 : List ByteArray) : Option Bool :=
  Option.bind (α := Unit ⊕ Bool) (Option.bind (law16_closed_L1 a1 rF97z a0 0) (fun o => match o with | .inl _ => some (.inl ()) | .inr r86 => some (.inr r86))) (fun o => match o with | .inl _ => some true | .inr r87 => some r87)

def law16_closed : Nat → (List Expr) → (List ByteArray) → Option Bool
  | 0 => fun _ _ => none
  | fuelN + 1 => fun a0 a1 => law16_closed_B (law16_closed fuelN) a0 a1

end Go.Dc
end
section
set_option linter.all false
namespace Go.Dc.Pl
open Go Go.Hw Go.Dc
/-! Numbers of nodes, depth. -/
mutual
def nE : Expr → Nat
  | ⟨_, _, _, _, as_⟩ => nL as_ + 1
def nL : List Expr → Nat
  | [] => 0
  | x :: r => nE x + nL r
end
mutual
def depE : Expr → Nat
  | ⟨_, _, _, _, as_⟩ => depL as_ + 1
def depL : List Expr → Nat
  | [] => 0
  | x :: r => max (depE x) (depL r)
end
theorem nE_eq (e : Expr) : nE e = nL e.Args + 1 := by cases e; rw [nE]
@[simp] theorem nL_nil : nL [] = 0 := by rw [nL]
@[simp] theorem nL_cons (x : Expr) (r : List Expr) : nL (x :: r) = nE x + nL r := by rw [nL]
@[simp] theorem depL_nil : depL [] = 0 := by rw [depL]
@[simp] theorem depL_cons (x : Expr) (r : List Expr) : depL (x :: r) = max (depE x) (depL r) := by rw [depL]
theorem nE_pos (e : Expr) : 1 ≤ nE e := by rw [nE_eq]; omega
theorem nL_len : ∀ l : List Expr, l.length ≤ nL l
  | [] => by simp
  | x :: r => by have := nL_len r; have := nE_pos x; simp; omega
theorem nL_mem : ∀ {l : List Expr} {x : Expr}, x ∈ l → nE x ≤ nL l
  | y :: r, x, h => by
    rcases List.mem_cons.1 h with rfl | h
    · simp
    · have := nL_mem h; simp; omega
mutual
theorem dep_le : ∀ e : Expr, depE e ≤ nE e
  | ⟨_, _, _, _, as_⟩ => by rw [depE, nE]; have := depL_le as_; omega
theorem depL_le : ∀ l : List Expr, depL l ≤ nL l
  | [] => by simp
  | x :: r => by have := dep_le x; have := depL_le r; simp; omega
end
theorem wrap_s {n : Int} (h1 : -4611686018427387904 ≤ n) (h2 : n ≤ 4611686018427387904) : IntKind.i64.wrap n = n := wrap_i64 (by omega) (by omega)
/-! The check of an expression. -/
/-- What is wrong with the fields of an expression. -/
def badE (k n : Int) (nm : ByteArray) (fn : Int) (m : Nat) : Bool := orB (orB (orB (andB (!(eqI k 1)) (!(eqI n 0))) (andB (!(eqI k 2)) (!(eqS nm (⟨#[]⟩ : ByteArray))))) (andB (!(eqI k 3)) (!(eqI fn 0)))) (!(eqI (m : Int) (if k = 3 then 2 else 0)))
def outV (n : Int) : Bool := orB (ltI n (-2147483648)) (ltI 2147483647 n)
mutual
def chkE (ls : List ByteArray) : Expr → Int
  | ⟨k, n, nm, fn, as_⟩ => if orB (ltI k 1) (ltI 3 k) = true then 8 else if badE k n nm fn as_.length = true then 9 else if k = 1 ∧ outV n = true then 2 else if k = 2 ∧ okWord nm = false then 6
    else if k = 2 ∧ isIn ls nm = false then 11 else if k = 3 ∧ orB (ltI fn 1) (ltI 10 fn) = true then 8 else chkL ls as_
def chkL (ls : List ByteArray) : List Expr → Int
  | [] => 0
  | x :: r => if chkE ls x = 0 then chkL ls r else chkE ls x
end
@[simp] theorem chkL_nil (ls : List ByteArray) : chkL ls [] = 0 := by rw [chkL]
@[simp] theorem chkL_cons (ls : List ByteArray) (x : Expr) (r : List Expr) : chkL ls (x :: r) = if chkE ls x = 0 then chkL ls r else chkE ls x := by rw [chkL]
def sumC (n : Int) : Unit ⊕ Int := if n = 0 then .inl () else .inr n
/-- The error of an expression. -/
def errE (ls : List ByteArray) (e : Expr) : Int := if 3 < depE e then 4 else chkE ls e
/-! The count of nodes ends. -/
theorem nodes_some : ∀ (N : Nat) (l : List Expr) (d : Int), nL l + 1 < N → nL l ≤ 1048576 → ∃ r, r16_nodes N l d = some r
  | 0, l, d, h, _ => absurd h (by omega)
  | N + 1, l, d, h, hb => by
    rw [show r16_nodes (N + 1) l d = r16_nodes_B (r16_nodes N) N l d from rfl, r16_nodes_B]
    have hlen := nL_len l
    have key : ∀ (q i : Nat) (a : Int), i ≤ l.length → l.length < i + q → ∃ r, r16_nodes_L1 l d (r16_nodes N) q a (i : Int) = some r := by
      intro q
      induction q with
      | zero => intro i a hi hq; exact absurd hq (by omega)
      | succ q ih =>
        intro i a hi hq
        rw [r16_nodes_L1]
        cases hc : andB (ltI (i : Int) ((l.length : Nat) : Int)) (ltI 0 d) with
        | false => exact ⟨_, rfl⟩
        | true =>
          have hi' : i < l.length := by simp [andB_d, ltI_d] at hc; omega
          rw [cond_true, getI_nat, List.getElem?_eq_getElem hi', Option.bind_some]
          have hm := nL_mem (List.getElem_mem hi')
          have h1 := nE_eq l[i]
          obtain ⟨y, hy⟩ := nodes_some N l[i].Args (IntKind.i64.wrap (d - 1)) (by omega) (by omega)
          rw [hy, Option.bind_some, wrapS (n := i) (by omega)]
          exact ih (i + 1) _ hi' (by omega)
    obtain ⟨r, hr⟩ := key N 0 ((l.length : Nat) : Int) (by omega) (by omega)
    rw [show ((0 : Nat) : Int) = 0 from rfl] at hr
    rw [hr]
    simp only [Option.bind_some]
    cases andB (eqI d 0) (ltI 0 r)
    · exact ⟨r, rfl⟩
    · exact ⟨_, rfl⟩
/-! Variables of expressions. -/
mutual
def closE (ls : List ByteArray) : Expr → Bool
  | ⟨k, _, nm, _, as_⟩ => !(decide (k = 2) && !isIn ls nm) && closL ls as_
def closL (ls : List ByteArray) : List Expr → Bool
  | [] => true
  | x :: r => closE ls x && closL ls r
end
@[simp] theorem closL_nil (ls : List ByteArray) : closL ls [] = true := by rw [closL]
@[simp] theorem closL_cons (ls : List ByteArray) (x : Expr) (r : List Expr) : closL ls (x :: r) = (closE ls x && closL ls r) := by rw [closL]
mutual
theorem chk_clos (ls : List ByteArray) : ∀ e : Expr, chkE ls e = 0 → closE ls e = true
  | ⟨k, n, nm, fn, as_⟩, h => by
    rw [chkE] at h
    rw [closE]
    split at h
    · cases h
    split at h
    · cases h
    split at h
    · cases h
    split at h
    · cases h
    split at h
    · cases h
    split at h
    · cases h
    rename_i h5 _
    rw [chkL_clos ls as_ h]
    by_cases e2 : k = 2
    · simp [e2] at h5 ⊢; exact h5
    · simp [e2]
theorem chkL_clos (ls : List ByteArray) : ∀ l : List Expr, chkL ls l = 0 → closL ls l = true
  | [], _ => by simp
  | x :: r, h => by
    rw [chkL_cons] at h
    split at h
    · rename_i e; rw [closL_cons, chk_clos ls x e, chkL_clos ls r h]; rfl
    · rename_i e; exact absurd h e
end
end Go.Dc.Pl
end
section
set_option linter.all false
namespace Go.Dc
open Go Go.Hw Go.Proofs
set_option maxRecDepth 100000

def ast_uses (a0 : Int) : Option AstUse :=
  Option.bind (α := Unit ⊕ AstUse) (cond (eqI a0 2) (some (.inr ({ obj := 1, order := true, exprs := 0 } : AstUse))) (Option.bind (α := Bool) (cond (eqI a0 3) (some (eqI a0 3)) (cond (eqI a0 4) (some (eqI a0 4)) (cond (eqI a0 5) (some (eqI a0 5)) (some (eqI a0 8))))) (fun b49 => cond b49 (some (.inr ({ obj := 1, order := true, exprs := 1 } : AstUse))) (cond (eqI a0 6) (some (.inr ({ obj := 1, order := true, exprs := 2 } : AstUse))) (Option.bind (α := Bool) (cond (eqI a0 9) (some (eqI a0 9)) (cond (eqI a0 10) (some (eqI a0 10)) (some (eqI a0 11)))) (fun b61 => cond b61 (some (.inr ({ obj := 2, order := false, exprs := 0 } : AstUse))) (Option.bind (α := Bool) (cond (eqI a0 12) (some (eqI a0 12)) (cond (eqI a0 13) (some (eqI a0 13)) (some (eqI a0 14)))) (fun b71 => cond b71 (some (.inr ({ obj := 3, order := false, exprs := 0 } : AstUse))) (cond (eqI a0 15) (some (.inr ({ obj := 4, order := false, exprs := 1 } : AstUse))) (cond (eqI a0 1) (some (.inr ({ obj := 0, order := false, exprs := 1 } : AstUse))) (cond (eqI a0 16) (some (.inr ({ obj := 0, order := false, exprs := 1 } : AstUse))) (cond (eqI a0 17) (some (.inr ({ obj := 0, order := false, exprs := 1 } : AstUse))) (cond (eqI a0 18) (some (.inr ({ obj := 0, order := false, exprs := 1 } : AstUse))) (cond (eqI a0 19) (some (.inr ({ obj := 0, order := false, exprs := 1 } : AstUse))) (some (.inl ())))))))))))))))) (fun o => match o with | .inl _ => some ({ obj := 0, order := false, exprs := 0 } : AstUse) | .inr r85 => some r85)

set_option maxHeartbeats 2000000 in
theorem at_ast_uses {a0 : Int} {r : AstUse} (hs : ast_uses a0 = some r) : At Tryd.prog 159 [iV .i64 a0] (.agg (eA r)) := by
  refine at_bound (by kernel_rfl) fun hb => ?_
  refine at_code mixed Tryd.func159 (by kernel_rfl) rfl (by kernel_rfl) rfl fun Q hQ => ?_
  rw [ast_uses] at hs
  refine goR2 f0 ?_
  revert hs; refine bK fun o42 e41 hs => ?_
  refine awp_cutK (fun (v : Unit) (σ : St) => some (.inl v) = some o42 ∧ σ.env 2 = .cell (.ref (.o 1 0 0) 0) ∧ σ.hp (.o 1 0 0) = some (.cells [nC 0, bC false, nC 0]) ∧ 2 ≤ σ.gen) (by rfl) (fun Q hK43 hX44 => ?_) (fun v σ7 hp => ?_)
  · refine goR2 f0 ?_
    refine awp_block ?_
    refine goR f0 ?_
    revert e41; refine cS f0 ?_ ?_ <;> intro h45 e41
    · refine goR f0 ?_
      obtain rfl := sj e41
      try dsimp only at hs
      refine hX44 _ _ (by simp) ?_
      refine goR f0 ?_
      obtain rfl := sj hs
      exact hQ _ _ (rg f0 (Gh.refl _))
    · refine goR2 f0 ?_
      revert e41; refine bK fun o51 e50 e41 => ?_
      refine awp_cut0 (fun (v : Bool) (σ : St) => some (v) = some o51 ∧ σ.env 2 = .cell (.ref (.o 1 0 0) 0) ∧ σ.env 3 = iV .i64 a0 ∧ σ.env 7 = bV v ∧ σ.hp (.o 1 0 0) = some (.cells [nC 0, bC false, nC 0]) ∧ 4 ≤ σ.gen) (fun Q hK52 hX53 => ?_) (fun b49 σ9 hp => ?_)
      · refine goR f0 ?_
        revert e50; refine cS f0 ?_ ?_ <;> intro h54 e50
        · refine goR f0 ?_
          exact hK52 (eqI a0 3) _ ⟨e50, pv f0, pv f0, pv f0, pv f0, pg⟩
        · refine goR f0 ?_
          revert e50; refine cS f0 ?_ ?_ <;> intro h55 e50
          · refine goR f0 ?_
            exact hK52 (eqI a0 4) _ ⟨e50, pv f0, pv f0, pv f0, pv f0, pg⟩
          · refine goR f0 ?_
            revert e50; refine cS f0 ?_ ?_ <;> intro h56 e50
            · refine goR f0 ?_
              exact hK52 (eqI a0 5) _ ⟨e50, pv f0, pv f0, pv f0, pv f0, pg⟩
            · refine goR f0 ?_
              exact hK52 (eqI a0 8) _ ⟨e50, pv f0, pv f0, pv f0, pv f0, pg⟩
      · obtain ⟨e50, h10_2, h10_3, h10_7, g10_0, n10_g⟩ := hp
        obtain rfl := sj e50
        try dsimp only at e41
        have n10_0 : ¬ (σ9.gen = 0) := by omega
        have F1 := an h10_2 (an h10_3 (an h10_7 (an g10_0 n10_0)))
        refine goR F1 ?_
        revert e41; refine cS F1 ?_ ?_ <;> intro h57 e41
        · refine goR F1 ?_
          obtain rfl := sj e41
          try dsimp only at hs
          refine hX44 _ _ (by simp) ?_
          refine goR F1 ?_
          obtain rfl := sj hs
          exact hQ _ _ (rg F1 (Gh.refl _))
        · refine goR F1 ?_
          revert e41; refine cS F1 ?_ ?_ <;> intro h58 e41
          · refine goR F1 ?_
            obtain rfl := sj e41
            try dsimp only at hs
            refine hX44 _ _ (by simp) ?_
            refine goR F1 ?_
            obtain rfl := sj hs
            exact hQ _ _ (rg F1 (Gh.refl _))
          · refine goR2 F1 ?_
            revert e41; refine bK fun o63 e62 e41 => ?_
            refine awp_cut0 (fun (v : Bool) (σ : St) => some (v) = some o63 ∧ σ.env 2 = .cell (.ref (.o 1 0 0) 0) ∧ σ.env 3 = iV .i64 a0 ∧ σ.env 16 = bV v ∧ σ.hp (.o 1 0 0) = some (.cells [nC 0, bC false, nC 0]) ∧ (σ9.gen + 2) ≤ σ.gen) (fun Q hK64 hX65 => ?_) (fun b61 σ11 hp => ?_)
            · refine goR F1 ?_
              revert e62; refine cS F1 ?_ ?_ <;> intro h66 e62
              · refine goR F1 ?_
                exact hK64 (eqI a0 9) _ ⟨e62, pv F1, pv F1, pv F1, pv F1, pg⟩
              · refine goR F1 ?_
                revert e62; refine cS F1 ?_ ?_ <;> intro h67 e62
                · refine goR F1 ?_
                  exact hK64 (eqI a0 10) _ ⟨e62, pv F1, pv F1, pv F1, pv F1, pg⟩
                · refine goR F1 ?_
                  exact hK64 (eqI a0 11) _ ⟨e62, pv F1, pv F1, pv F1, pv F1, pg⟩
            · obtain ⟨e62, h12_2, h12_3, h12_16, g12_0, n12_g⟩ := hp
              obtain rfl := sj e62
              try dsimp only at e41
              have n12_0 : ¬ (σ11.gen = 0) := by omega
              have F2 := an h12_2 (an h12_3 (an h12_16 (an g12_0 n12_0)))
              refine goR F2 ?_
              revert e41; refine cS F2 ?_ ?_ <;> intro h68 e41
              · refine goR F2 ?_
                obtain rfl := sj e41
                try dsimp only at hs
                refine hX44 _ _ (by simp) ?_
                refine goR F2 ?_
                obtain rfl := sj hs
                exact hQ _ _ (rg F2 (Gh.refl _))
              · refine goR2 F2 ?_
                revert e41; refine bK fun o73 e72 e41 => ?_
                refine awp_cut0 (fun (v : Bool) (σ : St) => some (v) = some o73 ∧ σ.env 2 = .cell (.ref (.o 1 0 0) 0) ∧ σ.env 3 = iV .i64 a0 ∧ σ.env 21 = bV v ∧ σ.hp (.o 1 0 0) = some (.cells [nC 0, bC false, nC 0]) ∧ (σ11.gen + 1) ≤ σ.gen) (fun Q hK74 hX75 => ?_) (fun b71 σ13 hp => ?_)
                · refine goR F2 ?_
                  revert e72; refine cS F2 ?_ ?_ <;> intro h76 e72
                  · refine goR F2 ?_
                    exact hK74 (eqI a0 12) _ ⟨e72, pv F2, pv F2, pv F2, pv F2, pg⟩
                  · refine goR F2 ?_
                    revert e72; refine cS F2 ?_ ?_ <;> intro h77 e72
                    · refine goR F2 ?_
                      exact hK74 (eqI a0 13) _ ⟨e72, pv F2, pv F2, pv F2, pv F2, pg⟩
                    · refine goR F2 ?_
                      exact hK74 (eqI a0 14) _ ⟨e72, pv F2, pv F2, pv F2, pv F2, pg⟩
                · obtain ⟨e72, h14_2, h14_3, h14_21, g14_0, n14_g⟩ := hp
                  obtain rfl := sj e72
                  try dsimp only at e41
                  have n14_0 : ¬ (σ13.gen = 0) := by omega
                  have F3 := an h14_2 (an h14_3 (an h14_21 (an g14_0 n14_0)))
                  refine goR F3 ?_
                  revert e41; refine cS F3 ?_ ?_ <;> intro h78 e41
                  · refine goR F3 ?_
                    obtain rfl := sj e41
                    try dsimp only at hs
                    refine hX44 _ _ (by simp) ?_
                    refine goR F3 ?_
                    obtain rfl := sj hs
                    exact hQ _ _ (rg F3 (Gh.refl _))
                  · refine goR F3 ?_
                    revert e41; refine cS F3 ?_ ?_ <;> intro h79 e41
                    · refine goR F3 ?_
                      obtain rfl := sj e41
                      try dsimp only at hs
                      refine hX44 _ _ (by simp) ?_
                      refine goR F3 ?_
                      obtain rfl := sj hs
                      exact hQ _ _ (rg F3 (Gh.refl _))
                    · refine goR F3 ?_
                      revert e41; refine cS F3 ?_ ?_ <;> intro h80 e41
                      · refine goR F3 ?_
                        refine condK_t (by first | exact h80 | simpa using h80) ?_
                        refine goR F3 ?_
                        obtain rfl := sj e41
                        try dsimp only at hs
                        refine hX44 _ _ (by simp) ?_
                        refine goR F3 ?_
                        obtain rfl := sj hs
                        exact hQ _ _ (rg F3 (Gh.refl _))
                      · refine goR F3 ?_
                        revert e41; refine cS F3 ?_ ?_ <;> intro h81 e41
                        · refine goR F3 ?_
                          refine condK_t (by first | exact h81 | simpa using h81) ?_
                          refine goR F3 ?_
                          obtain rfl := sj e41
                          try dsimp only at hs
                          refine hX44 _ _ (by simp) ?_
                          refine goR F3 ?_
                          obtain rfl := sj hs
                          exact hQ _ _ (rg F3 (Gh.refl _))
                        · refine goR F3 ?_
                          revert e41; refine cS F3 ?_ ?_ <;> intro h82 e41
                          · refine goR F3 ?_
                            refine condK_t (by first | exact h82 | simpa using h82) ?_
                            refine goR F3 ?_
                            obtain rfl := sj e41
                            try dsimp only at hs
                            refine hX44 _ _ (by simp) ?_
                            refine goR F3 ?_
                            obtain rfl := sj hs
                            exact hQ _ _ (rg F3 (Gh.refl _))
                          · refine goR F3 ?_
                            revert e41; refine cS F3 ?_ ?_ <;> intro h83 e41
                            · refine goR F3 ?_
                              refine condK_t (by first | exact h83 | simpa using h83) ?_
                              refine goR F3 ?_
                              obtain rfl := sj e41
                              try dsimp only at hs
                              refine hX44 _ _ (by simp) ?_
                              refine goR F3 ?_
                              obtain rfl := sj hs
                              exact hQ _ _ (rg F3 (Gh.refl _))
                            · refine goR F3 ?_
                              revert e41; refine cS F3 ?_ ?_ <;> intro h84 e41
                              · refine goR F3 ?_
                                obtain rfl := sj e41
                                try dsimp only at hs
                                refine hX44 _ _ (by simp) ?_
                                refine goR F3 ?_
                                obtain rfl := sj hs
                                exact hQ _ _ (rg F3 (Gh.refl _))
                              · refine goR F3 ?_
                                exact hK43 () _ _ (Gh.refl _) ⟨e41, pv F3, pv F3, pg⟩
  · obtain ⟨e41, h8_2, g8_0, n8_g⟩ := hp
    obtain rfl := sj e41
    try dsimp only at hs
    have n8_0 : ¬ (σ7.gen = 0) := by omega
    have F4 := an h8_2 (an g8_0 n8_0)
    refine goR F4 ?_
    obtain rfl := sj hs
    exact hQ _ _ (rg F4 (Gh.refl _))
end Go.Dc
end
section
set_option linter.all false
namespace Go.Dc
open Go Go.Hw Go.Proofs
set_option maxRecDepth 100000

def ast_assigns (a0 : Int) : Option Bool :=
  cond (eqI a0 1) (some true) (cond (eqI a0 2) (some true) (cond (eqI a0 4) (some true) (cond (eqI a0 5) (some true) (cond (eqI a0 6) (some true) (cond (eqI a0 8) (some true) (cond (eqI a0 11) (some true) (cond (eqI a0 15) (some true) (some false))))))))

set_option maxHeartbeats 2000000 in
theorem at_ast_assigns {a0 : Int} {r : Bool} (hs : ast_assigns a0 = some r) : At Tryd.prog 80 [iV .i64 a0] (bV r) := by
  refine at_bound (by kernel_rfl) fun hb => ?_
  refine at_code mixed Tryd.func80 (by kernel_rfl) rfl (by kernel_rfl) rfl fun Q hQ => ?_
  rw [ast_assigns] at hs
  refine goR f0 ?_
  revert hs; refine cS f0 ?_ ?_ <;> intro h1 hs
  · refine goR f0 ?_
    refine condK_t (by first | exact h1 | simpa using h1) ?_
    refine goR f0 ?_
    obtain rfl := sj hs
    exact hQ _ _ (rg f0 (Gh.refl _))
  · refine goR f0 ?_
    revert hs; refine cS f0 ?_ ?_ <;> intro h2 hs
    · refine goR f0 ?_
      refine condK_t (by first | exact h2 | simpa using h2) ?_
      refine goR f0 ?_
      obtain rfl := sj hs
      exact hQ _ _ (rg f0 (Gh.refl _))
    · refine goR f0 ?_
      revert hs; refine cS f0 ?_ ?_ <;> intro h3 hs
      · refine goR f0 ?_
        refine condK_t (by first | exact h3 | simpa using h3) ?_
        refine goR f0 ?_
        obtain rfl := sj hs
        exact hQ _ _ (rg f0 (Gh.refl _))
      · refine goR f0 ?_
        revert hs; refine cS f0 ?_ ?_ <;> intro h4 hs
        · refine goR f0 ?_
          refine condK_t (by first | exact h4 | simpa using h4) ?_
          refine goR f0 ?_
          obtain rfl := sj hs
          exact hQ _ _ (rg f0 (Gh.refl _))
        · refine goR f0 ?_
          revert hs; refine cS f0 ?_ ?_ <;> intro h5 hs
          · refine goR f0 ?_
            refine condK_t (by first | exact h5 | simpa using h5) ?_
            refine goR f0 ?_
            obtain rfl := sj hs
            exact hQ _ _ (rg f0 (Gh.refl _))
          · refine goR f0 ?_
            revert hs; refine cS f0 ?_ ?_ <;> intro h6 hs
            · refine goR f0 ?_
              refine condK_t (by first | exact h6 | simpa using h6) ?_
              refine goR f0 ?_
              obtain rfl := sj hs
              exact hQ _ _ (rg f0 (Gh.refl _))
            · refine goR f0 ?_
              revert hs; refine cS f0 ?_ ?_ <;> intro h7 hs
              · refine goR f0 ?_
                refine condK_t (by first | exact h7 | simpa using h7) ?_
                refine goR f0 ?_
                obtain rfl := sj hs
                exact hQ _ _ (rg f0 (Gh.refl _))
              · refine goR f0 ?_
                revert hs; refine cS f0 ?_ ?_ <;> intro h8 hs
                · refine goR f0 ?_
                  obtain rfl := sj hs
                  exact hQ _ _ (rg f0 (Gh.refl _))
                · refine goR f0 ?_
                  obtain rfl := sj hs
                  exact hQ _ _ (rg f0 (Gh.refl _))
end Go.Dc
end
section
set_option linter.all false
namespace Go.Dc
open Go Go.Hw Go.Proofs
set_option maxRecDepth 100000

def ast_fields (a0 : Stmt) : Option Int :=
  Option.bind (ast_uses a0.Kind) (fun y1 => Option.bind (ast_assigns a0.Kind) (fun y3 => cond (orB (orB (orB (andB (!y3) (!(eqS a0.Name (⟨#[]⟩ : ByteArray)))) (andB (eqI y1.obj 0) (!(eqS a0.Obj (⟨#[]⟩ : ByteArray))))) (andB (!(eqI a0.Kind 12)) (!(eqS a0.Other (⟨#[]⟩ : ByteArray))))) (andB (!(eqI a0.Kind 8)) (!(eqI a0.Fn 0)))) (some 9) (cond (orB (orB (orB (andB (!y1.order) (!(eqI a0.Order 0))) (!(eqI ((a0.Exprs.length : Nat) : Int) y1.exprs))) (andB (!(orB (eqI a0.Kind 18) (eqI a0.Kind 19))) (ltI 0 ((a0.Body.length : Nat) : Int)))) (andB (!(eqI a0.Kind 18)) (ltI 0 ((a0.Else.length : Nat) : Int)))) (some 9) (some 0))))

set_option maxHeartbeats 2000000 in
theorem at_ast_fields {a0 : Stmt} {r : Int} (hs : ast_fields a0 = some r) : At Tryd.prog 158 [.agg (eA a0)] (iV .i64 r) := by
  refine at_bound (by kernel_rfl) fun hb => ?_
  have hb1 : LenOk (.sl a0.Exprs.length (encL a0.Exprs)) := lkc hb
  have hb2 : LenOk (.sl a0.Body.length (encL a0.Body)) := lkc hb
  have hb3 : LenOk (.sl a0.Else.length (encL a0.Else)) := lkc hb
  refine at_code mixed Tryd.func158 (by kernel_rfl) rfl (by kernel_rfl) rfl fun Q hQ => ?_
  rw [ast_fields] at hs
  refine goR f0 ?_
  revert hs; refine bK fun y1 hx2 hs => ?_
  refine cP f0 (at_ast_uses hx2) ?_
  refine goG f0 f0 ?_
  revert hs; refine bK fun y3 hx4 hs => ?_
  refine cP f0 (at_ast_assigns hx4) ?_
  refine goG f0 f0 ?_
  revert hs; refine cS f0 ?_ ?_ <;> intro h5 hs
  · refine goG f0 f0 ?_
    obtain rfl := sj hs
    exact hQ _ _ (rg f0 (Gh.refl _))
  · refine goG f0 f0 ?_
    revert hs; refine cS f0 ?_ ?_ <;> intro h6 hs
    · refine goG f0 f0 ?_
      obtain rfl := sj hs
      exact hQ _ _ (rg f0 (Gh.refl _))
    · refine goG f0 f0 ?_
      obtain rfl := sj hs
      exact hQ _ _ (rg f0 (Gh.refl _))
end Go.Dc
end
section
set_option linter.all false
namespace Go.Dc
open Go Go.Hw Go.Proofs
set_option maxRecDepth 100000

def ast_checker_stmt_1 (a0 : Int) (a1 : ByteArray) (a2 : AstChecker) : Option Bool :=
  guardO (inB a0 5) (Option.bind (slices_Contains_string (a2.objects.f ((a0).toNat)) a1) (fun y3 => some y3))

set_option maxHeartbeats 2000000 in
theorem at_ast_checker_stmt_1 {a0 : Int} {a1 : ByteArray} {a2 : AstChecker} {r : Bool} (hs : ast_checker_stmt_1 a0 a1 a2 = some r) : At Tryd.prog 160 [iV .i64 a0, sV a1, .cell (.ep [.bx [.sl (a2.objects.f 0).length (encL (a2.objects.f 0)), .sl (a2.objects.f 1).length (encL (a2.objects.f 1)), .sl (a2.objects.f 2).length (encL (a2.objects.f 2)), .sl (a2.objects.f 3).length (encL (a2.objects.f 3)), .sl (a2.objects.f 4).length (encL (a2.objects.f 4)), .sl a2.locals.length (encL a2.locals)]] 0)] (bV r) := by
  refine at_bound (by kernel_rfl) fun hb => ?_
  refine at_code mixed Tryd.func160 (by kernel_rfl) rfl (by kernel_rfl) rfl fun Q hQ => ?_
  rw [ast_checker_stmt_1] at hs
  obtain ⟨g1, hs⟩ := guardO_some hs
  have g1a : 0 ≤ a0 := (inB_t g1).1
  have g1b : a0 < 5 := (inB_t g1).2.1
  have g1n : (a0).toNat < 5 :=  by simpa using (inB_t g1).2.2
  have f2 : ([sC (a2.objects.f 0), sC (a2.objects.f 1), sC (a2.objects.f 2), sC (a2.objects.f 3), sC (a2.objects.f 4)] : List AC)[(a0).toNat]? = some (sC (a2.objects.f ((a0).toNat))) := arr_read (n := 5) (fun j => (sC (a2.objects.f j) : AC)) g1n
  have f2p : ([.sl (a2.objects.f 0).length (encL (a2.objects.f 0)), .sl (a2.objects.f 1).length (encL (a2.objects.f 1)), .sl (a2.objects.f 2).length (encL (a2.objects.f 2)), .sl (a2.objects.f 3).length (encL (a2.objects.f 3)), .sl (a2.objects.f 4).length (encL (a2.objects.f 4)), .sl a2.locals.length (encL a2.locals)] : List CV)[(a0).toNat]? = some (.sl (a2.objects.f ((a0).toNat)).length (encL (a2.objects.f ((a0).toNat)))) := arr_readQ (n := 5) (fun j => (.sl (a2.objects.f j).length (encL (a2.objects.f j)) : CV)) [.sl a2.locals.length (encL a2.locals)] g1n
  have f2t := take_one f2
  have f2g := get_of f2
  have F1 := an g1a (an g1b (an g1n (an f2p (an f2 (an f2t f2g)))))
  refine goR F1 ?_
  revert hs; refine bK fun y3 hx4 hs => ?_
  refine cP F1 (at_slices_Contains_string hx4) ?_
  refine goR F1 ?_
  obtain rfl := sj hs
  exact hQ _ _ (rg F1 (Gh.refl _))
end Go.Dc
end
section
set_option linter.all false
namespace Go.Dc
open Go Go.Hw Go.Proofs
set_option maxRecDepth 100000
def ast_checker_stmt_L1 (fuelN : Nat) (a0 : AstChecker) : List Expr → Nat → Option (Unit ⊕ Int)
  | [], k78 => some (.inl ())
  | x99 :: q95, k78 => Option.bind (ast_CheckExpr fuelN x99 a0.locals) (fun y104 => cond (!(eqI y104 0)) (some (.inr y104)) (ast_checker_stmt_L1 fuelN a0 q95 (k78 + 1)))

def ast_checker_stmt_L2 (fuelN : Nat) (a0 : AstChecker) : List Expr → Nat → Option (Unit ⊕ Int)
  | [], k171 => some (.inl ())
  | x192 :: q188, k171 => Option.bind (ast_CheckExpr fuelN x192 a0.locals) (fun y197 => cond (!(eqI y197 0)) (some (.inr y197)) (ast_checker_stmt_L2 fuelN a0 q188 (k171 + 1)))

def ast_checker_stmt_L3 (fuelN : Nat) (a0 : AstChecker) : List Expr → Nat → Option (Unit ⊕ Int)
  | [], k268 => some (.inl ())
  | x289 :: q285, k268 => Option.bind (ast_CheckExpr fuelN x289 a0.locals) (fun y294 => cond (!(eqI y294 0)) (some (.inr y294)) (ast_checker_stmt_L3 fuelN a0 q285 (k268 + 1)))

def ast_checker_stmt_L4 (fuelN : Nat) (a0 : AstChecker) : List Expr → Nat → Option (Unit ⊕ Int)
  | [], k361 => some (.inl ())
  | x382 :: q378, k361 => Option.bind (ast_CheckExpr fuelN x382 a0.locals) (fun y387 => cond (!(eqI y387 0)) (some (.inr y387)) (ast_checker_stmt_L4 fuelN a0 q378 (k361 + 1)))

def ast_checker_stmt (fuelN : Nat) (a0 : AstChecker) (a1 : Int) (a2 : Stmt) : Option Int :=
  cond (ltI 12 a1) (some 4) (cond (orB (ltI a2.Kind 1) (ltI 20 a2.Kind)) (some 8) (Option.bind (ast_fields a2) (fun y3 => cond (!(eqI y3 0)) (some y3) (Option.bind (ast_uses a2.Kind) (fun y6 => Option.bind (ast_assigns a2.Kind) (fun y8 => guardO (orB (!y8) ((ast_validName a2.Name).isSome)) (cond (andB y8 (!((ast_validName a2.Name).getD default))) (some 6) (cond (!(eqI y6.obj 0)) (Option.bind (ast_checker_stmt_1 y6.obj a2.Obj a0) (fun y13 => cond (!y13) (some 11) (cond (eqI a2.Kind 12) (Option.bind (ast_checker_stmt_1 2 a2.Other a0) (fun y17 => cond (!y17) (some 11) (cond (andB (eqI a2.Kind 8) (orB (ltI a2.Fn 1) (ltI 10 a2.Fn))) (some 8) (cond (andB y6.order (orB (ltI a2.Order 0) (ltI 2 a2.Order))) (some 13) (Option.bind (α := Unit ⊕ Int) (Option.bind (ast_checker_stmt_L1 fuelN a0 a2.Exprs 0) (fun o => match o with | .inl _ => some (.inl ()) | .inr r107 => some (.inr r107))) (fun o => match o with | .inl _ => guardO (orB (!(eqI a2.Kind 6)) (inB (1 : Int) a2.Exprs.length)) (guardO (orB (!(eqI a2.Kind 6)) ((ast_Depth fuelN (gd a2.Exprs 1)).isSome)) (cond (andB (eqI a2.Kind 6) (ltI 2 ((ast_Depth fuelN (gd a2.Exprs 1)).getD default))) (some 4) (some 0))) | .inr r112 => some r112)))))) (cond (andB (eqI a2.Kind 8) (orB (ltI a2.Fn 1) (ltI 10 a2.Fn))) (some 8) (cond (andB y6.order (orB (ltI a2.Order 0) (ltI 2 a2.Order))) (some 13) (Option.bind (α := Unit ⊕ Int) (Option.bind (ast_checker_stmt_L2 fuelN a0 a2.Exprs 0) (fun o => match o with | .inl _ => some (.inl ()) | .inr r200 => some (.inr r200))) (fun o => match o with | .inl _ => guardO (orB (!(eqI a2.Kind 6)) (inB (1 : Int) a2.Exprs.length)) (guardO (orB (!(eqI a2.Kind 6)) ((ast_Depth fuelN (gd a2.Exprs 1)).isSome)) (cond (andB (eqI a2.Kind 6) (ltI 2 ((ast_Depth fuelN (gd a2.Exprs 1)).getD default))) (some 4) (some 0))) | .inr r205 => some r205))))))) (cond (eqI a2.Kind 12) (Option.bind (ast_checker_stmt_1 2 a2.Other a0) (fun y207 => cond (!y207) (some 11) (cond (andB (eqI a2.Kind 8) (orB (ltI a2.Fn 1) (ltI 10 a2.Fn))) (some 8) (cond (andB y6.order (orB (ltI a2.Order 0) (ltI 2 a2.Order))) (some 13) (Option.bind (α := Unit ⊕ Int) (Option.bind (ast_checker_stmt_L3 fuelN a0 a2.Exprs 0) (fun o => match o with | .inl _ => some (.inl ()) | .inr r297 => some (.inr r297))) (fun o => match o with | .inl _ => guardO (orB (!(eqI a2.Kind 6)) (inB (1 : Int) a2.Exprs.length)) (guardO (orB (!(eqI a2.Kind 6)) ((ast_Depth fuelN (gd a2.Exprs 1)).isSome)) (cond (andB (eqI a2.Kind 6) (ltI 2 ((ast_Depth fuelN (gd a2.Exprs 1)).getD default))) (some 4) (some 0))) | .inr r302 => some r302)))))) (cond (andB (eqI a2.Kind 8) (orB (ltI a2.Fn 1) (ltI 10 a2.Fn))) (some 8) (cond (andB y6.order (orB (ltI a2.Order 0) (ltI 2 a2.Order))) (some 13) (Option.bind (α := Unit ⊕ Int) (Option.bind (ast_checker_stmt_L4 fuelN a0 a2.Exprs 0) (fun o => match o with | .inl _ => some (.inl ()) | .inr r390 => some (.inr r390))) (fun o => match o with | .inl _ => guardO (orB (!(eqI a2.Kind 6)) (inB (1 : Int) a2.Exprs.length)) (guardO (orB (!(eqI a2.Kind 6)) ((ast_Depth fuelN (gd a2.Exprs 1)).isSome)) (cond (andB (eqI a2.Kind 6) (ltI 2 ((ast_Depth fuelN (gd a2.Exprs 1)).getD default))) (some 4) (some 0))) | .inr r395 => some r395)))))))))))))

set_option maxHeartbeats 2000000 in
theorem at_ast_checker_stmt {fuelN : Nat} {a0 : AstChecker} {a1 : Int} {a2 : Stmt} {r : Int} (hs : ast_checker_stmt fuelN a0 a1 a2 = some r) : At Tryd.prog 120 [.cell (.ep [.sl (a0.objects.f 0).length (encL (a0.objects.f 0)), .sl (a0.objects.f 1).length (encL (a0.objects.f 1)), .sl (a0.objects.f 2).length (encL (a0.objects.f 2)), .sl (a0.objects.f 3).length (encL (a0.objects.f 3)), .sl (a0.objects.f 4).length (encL (a0.objects.f 4)), .sl a0.locals.length (encL a0.locals)] 0), iV .i64 a1, .agg (eA a2)] (iV .i64 r) := by
  refine at_bound (by kernel_rfl) fun hb => ?_
  have hb1 : LenOk (.sl a2.Exprs.length (encL a2.Exprs)) := lkc hb
  have hb2 : LenOk (.sl a2.Body.length (encL a2.Body)) := lkc hb
  have hb3 : LenOk (.sl a2.Else.length (encL a2.Else)) := lkc hb
  refine at_code mixed Tryd.func120 (by kernel_rfl) rfl (by kernel_rfl) rfl fun Q hQ => ?_
  rw [ast_checker_stmt] at hs
  refine goR f0 ?_
  revert hs; refine cS f0 ?_ ?_ <;> intro h1 hs
  · refine goR f0 ?_
    obtain rfl := sj hs
    exact hQ _ _ (rg f0 (Gh.refl _))
  · refine goG f0 f0 ?_
    revert hs; refine cS f0 ?_ ?_ <;> intro h2 hs
    · refine goG f0 f0 ?_
      obtain rfl := sj hs
      exact hQ _ _ (rg f0 (Gh.refl _))
    · refine goG f0 f0 ?_
      revert hs; refine bK fun y3 hx4 hs => ?_
      refine cP f0 (at_ast_fields hx4) ?_
      refine goG f0 f0 ?_
      revert hs; refine cS f0 ?_ ?_ <;> intro h5 hs
      · refine goG f0 f0 ?_
        obtain rfl := sj hs
        exact hQ _ _ (rg f0 (Gh.refl _))
      · refine goG f0 f0 ?_
        revert hs; refine bK fun y6 hx7 hs => ?_
        refine cP f0 (at_ast_uses hx7) ?_
        refine goG f0 f0 ?_
        revert hs; refine bK fun y8 hx9 hs => ?_
        refine cP f0 (at_ast_assigns hx9) ?_
        refine goG f0 f0 ?_
        obtain ⟨g10, hs⟩ := guardO_some hs
        refine gsel_call (fun hg => at_ast_validName (under_call g10 hg)) (fun hg => by (try simp at hg); (first | simp [hg, id]); try rfl) (fun hg => by (try simp at hg); simp [hg, id]) (by simp) ?_
        refine goG f0 f0 ?_
        revert hs; refine cS f0 ?_ ?_ <;> intro h11 hs
        · refine goG f0 f0 ?_
          obtain rfl := sj hs
          exact hQ _ _ (rg f0 (Gh.refl _))
        · refine goG f0 f0 ?_
          refine gsel_split (fun h12 => ?_) (fun h12 => ?_)
          · replace hs := condT h12 hs
            simp only [Bool.not_eq_true', Bool.not_eq_false', Bool.not_not] at h12
            refine goG h12 h12 ?_
            revert hs; refine bK fun y13 hx14 hs => ?_
            refine cA h12 (at_ast_checker_stmt_1 hx14) ?_
            refine goG h12 h12 ?_
            revert hs; refine cS h12 ?_ ?_ <;> intro h15 hs
            · refine goG h12 h12 ?_
              obtain rfl := sj hs
              exact hQ _ _ (rg h12 (Gh.refl _))
            · refine goG h12 h12 ?_
              refine gsel_split (fun h16 => ?_) (fun h16 => ?_)
              · replace hs := condT h16 hs
                have F1 := an h12 h16
                refine goG F1 F1 ?_
                revert hs; refine bK fun y17 hx18 hs => ?_
                refine cA F1 (at_ast_checker_stmt_1 hx18) ?_
                refine goG F1 F1 ?_
                revert hs; refine cS F1 ?_ ?_ <;> intro h19 hs
                · refine goG F1 F1 ?_
                  obtain rfl := sj hs
                  exact hQ _ _ (rg F1 (Gh.refl _))
                · refine goG F1 F1 ?_
                  revert hs; refine cS F1 ?_ ?_ <;> intro h20 hs
                  · refine goG F1 F1 ?_
                    obtain rfl := sj hs
                    exact hQ _ _ (rg F1 (Gh.refl _))
                  · refine goG F1 F1 ?_
                    revert hs; refine cS F1 ?_ ?_ <;> intro h21 hs
                    · refine goG F1 F1 ?_
                      obtain rfl := sj hs
                      exact hQ _ _ (rg F1 (Gh.refl _))
                    · refine goG2 F1 F1 ?_
                      revert hs; refine bK fun o64 e63 hs => ?_
                      refine awp_cutK (fun (v : Unit) (σ : St) => some (.inl v) = some o64 ∧ σ.env 5 = .cell (.ref (.o 1 1 0) 0) ∧ σ.hp (.o 1 1 0) = some (.cells (eA a2)) ∧ 13 ≤ σ.gen) (by rfl) (fun Q hK65 hX66 => ?_) (fun v σ3 hp => ?_)
                      · refine goG F1 F1 ?_
                        revert e63; refine bK fun o90 e89 e63 => ?_
                        refine awp_loopW (fun (v : (List Expr) × Nat) (σ : St) => ast_checker_stmt_L1 fuelN a0 v.1 v.2 = some o90 ∧ v.1 = a2.Exprs.drop v.2 ∧ σ.env 3 = .cell (.ref (.o 1 0 0) 0) ∧ σ.env 5 = .cell (.ref (.o 1 1 0) 0) ∧ σ.env 94 = .cell (sC a2.Exprs) ∧ σ.env 95 = iV .i64 ((a2.Exprs.length : Nat) : Int) ∧ σ.env 96 = iV .i64 ((v.2 : Nat) : Int) ∧ σ.hp (.o 1 0 0) = some (.cells [.ep [.sl (a0.objects.f 0).length (encL (a0.objects.f 0)), .sl (a0.objects.f 1).length (encL (a0.objects.f 1)), .sl (a0.objects.f 2).length (encL (a0.objects.f 2)), .sl (a0.objects.f 3).length (encL (a0.objects.f 3)), .sl (a0.objects.f 4).length (encL (a0.objects.f 4)), .sl a0.locals.length (encL a0.locals)] 0]) ∧ σ.hp (.o 1 1 0) = some (.cells (eA a2)) ∧ 13 ≤ σ.gen) (fun v => v.1.length) _ (Gh.refl _) (a2.Exprs, 0) ⟨e89, by simp, pv F1, pv F1, pv F1, pv F1, pv F1, pv F1, pv F1, pg⟩ fun v σ6 hp L91 hL92 => ?_
                        obtain ⟨q94, k78⟩ := v
                        dsimp only at hp hL92
                        obtain ⟨e89, hd93, h5_3, h5_5, h5_94, h5_95, h5_96, g5_0, g5_1, n5_g⟩ := hp
                        have n5_0 : ¬ (σ6.gen = 0) := by omega
                        rcases q94 with _ | ⟨x99, q95⟩
                        · have hlt96 := drop_end hd93
                          rw [ast_checker_stmt_L1] at e89; try dsimp only at e89
                          have F2 := an h5_3 (an h5_5 (an h5_94 (an h5_95 (an h5_96 (an g5_0 (an g5_1 (an n5_0 (an h12 h16))))))))
                          refine goR F2 ?_
                          refine condK_f (by simp [ltI]; omega) ?_
                          obtain rfl := sj e89
                          try dsimp only at e63
                          exact hK65 () _ _ (Gh.refl _) ⟨e63, pv F2, pv F2, pg⟩
                        · obtain ⟨hx98, hlt96, hd100⟩ := drop_next hd93
                          have ew97 := wrap_succ hlt96 (hb1).len
                          rw [ast_checker_stmt_L1] at e89; try dsimp only at e89
                          have F3 := an h5_3 (an h5_5 (an h5_94 (an h5_95 (an h5_96 (an g5_0 (an g5_1 (an n5_0 (an h12 (an h16 (an hlt96 ew97))))))))))
                          refine goR F3 ?_
                          refine condK_t (by simp [ltI]; omega) ?_
                          have f101 : partCV Tryd.prog 50 (encL a2.Exprs) (k78 * 5) = some (.agg (eA x99)) := partCV_enc hx98 (f := 0) (by simp)
                          have F4 := an F3 f101
                          refine goD F4 ?_
                          revert e89; refine bK fun y104 hx105 e89 => ?_
                          refine cP F4 (at_ast_CheckExpr hx105) ?_
                          refine goD F4 ?_
                          revert e89; refine cS F4 ?_ ?_ <;> intro h106 e89
                          · refine goD F4 ?_
                            obtain rfl := sj e89
                            try dsimp only at e63
                            obtain rfl := sj e63
                            try dsimp only at hs
                            refine hX66 _ _ (by simp) ?_
                            refine goD F4 ?_
                            obtain rfl := sj hs
                            exact hQ _ _ (rg F4 (Gh.refl _))
                          · refine goD F4 ?_
                            exact hL92 (q95, (k78 + 1)) _ _ (Gh.refl _) ⟨e89, hd100, pv F4, pv F4, pv F4, pv F4, pv F4, pv F4, pv F4, pg⟩ (by simp)
                      · obtain ⟨e63, h4_5, g4_0, n4_g⟩ := hp
                        obtain rfl := sj e63
                        try dsimp only at hs
                        have n4_0 : ¬ (σ3.gen = 0) := by omega
                        obtain ⟨g108, hs⟩ := guardO_some hs
                        have g108a : (eqI a2.Kind 6) = true → 0 ≤ (1 : Int) := fun hg => (under_elem g108 hg).1
                        have g108b : (eqI a2.Kind 6) = true → (1 : Int) < (a2.Exprs.length : Int) := fun hg => (under_elem g108 hg).2.1
                        have g108n : (eqI a2.Kind 6) = true → 1 < a2.Exprs.length := fun hg => by simpa using (under_elem g108 hg).2.2.1
                        have g108c : (eqI a2.Kind 6) = true → a2.Exprs[1]? = some (gd a2.Exprs 1) := fun hg => by simpa using (under_elem g108 hg).2.2.2
                        have f109 : (eqI a2.Kind 6) = true → partCV Tryd.prog 50 (encL a2.Exprs) (1 * 5) = some (.agg [nC ((gd a2.Exprs 1).Kind), nC ((gd a2.Exprs 1).N), tC ((gd a2.Exprs 1).Name), nC ((gd a2.Exprs 1).Fn), sC ((gd a2.Exprs 1).Args)]) := fun hg => partCV_enc (g108c hg) (f := 0) (by simp)
                        have F5 := an h4_5 (an g4_0 (an n4_0 (an h12 (an h16 (an g108a (an g108b (an g108n f109)))))))
                        refine goG F5 F5 ?_
                        obtain ⟨g110, hs⟩ := guardO_some hs
                        refine gsel_call (fun hg => at_ast_Depth (under_call g110 hg)) (fun hg => by (try simp at hg); (first | simp [hg, F5]); try rfl) (fun hg => by (try simp at hg); simp [hg, F5]) (by simp) ?_
                        refine goG F5 F5 ?_
                        revert hs; refine cS F5 ?_ ?_ <;> intro h111 hs
                        · refine goG F5 F5 ?_
                          obtain rfl := sj hs
                          exact hQ _ _ (rg F5 (Gh.refl _))
                        · refine goG F5 F5 ?_
                          obtain rfl := sj hs
                          exact hQ _ _ (rg F5 (Gh.refl _))
              · replace hs := condF h16 hs
                have F6 := an h12 h16
                refine goG F6 F6 ?_
                refine goG F6 F6 ?_
                revert hs; refine cS F6 ?_ ?_ <;> intro h113 hs
                · refine goG F6 F6 ?_
                  obtain rfl := sj hs
                  exact hQ _ _ (rg F6 (Gh.refl _))
                · refine goG F6 F6 ?_
                  revert hs; refine cS F6 ?_ ?_ <;> intro h114 hs
                  · refine goG F6 F6 ?_
                    obtain rfl := sj hs
                    exact hQ _ _ (rg F6 (Gh.refl _))
                  · refine goG2 F6 F6 ?_
                    revert hs; refine bK fun o157 e156 hs => ?_
                    refine awp_cutK (fun (v : Unit) (σ : St) => some (.inl v) = some o157 ∧ σ.env 5 = .cell (.ref (.o 1 1 0) 0) ∧ σ.hp (.o 1 1 0) = some (.cells (eA a2)) ∧ 13 ≤ σ.gen) (by rfl) (fun Q hK158 hX159 => ?_) (fun v σ9 hp => ?_)
                    · refine goG F6 F6 ?_
                      revert e156; refine bK fun o183 e182 e156 => ?_
                      refine awp_loopW (fun (v : (List Expr) × Nat) (σ : St) => ast_checker_stmt_L2 fuelN a0 v.1 v.2 = some o183 ∧ v.1 = a2.Exprs.drop v.2 ∧ σ.env 3 = .cell (.ref (.o 1 0 0) 0) ∧ σ.env 5 = .cell (.ref (.o 1 1 0) 0) ∧ σ.env 94 = .cell (sC a2.Exprs) ∧ σ.env 95 = iV .i64 ((a2.Exprs.length : Nat) : Int) ∧ σ.env 96 = iV .i64 ((v.2 : Nat) : Int) ∧ σ.hp (.o 1 0 0) = some (.cells [.ep [.sl (a0.objects.f 0).length (encL (a0.objects.f 0)), .sl (a0.objects.f 1).length (encL (a0.objects.f 1)), .sl (a0.objects.f 2).length (encL (a0.objects.f 2)), .sl (a0.objects.f 3).length (encL (a0.objects.f 3)), .sl (a0.objects.f 4).length (encL (a0.objects.f 4)), .sl a0.locals.length (encL a0.locals)] 0]) ∧ σ.hp (.o 1 1 0) = some (.cells (eA a2)) ∧ 13 ≤ σ.gen) (fun v => v.1.length) _ (Gh.refl _) (a2.Exprs, 0) ⟨e182, by simp, pv F6, pv F6, pv F6, pv F6, pv F6, pv F6, pv F6, pg⟩ fun v σ12 hp L184 hL185 => ?_
                      obtain ⟨q187, k171⟩ := v
                      dsimp only at hp hL185
                      obtain ⟨e182, hd186, h11_3, h11_5, h11_94, h11_95, h11_96, g11_0, g11_1, n11_g⟩ := hp
                      have n11_0 : ¬ (σ12.gen = 0) := by omega
                      rcases q187 with _ | ⟨x192, q188⟩
                      · have hlt189 := drop_end hd186
                        rw [ast_checker_stmt_L2] at e182; try dsimp only at e182
                        have F7 := an h11_3 (an h11_5 (an h11_94 (an h11_95 (an h11_96 (an g11_0 (an g11_1 (an n11_0 (an h12 h16))))))))
                        refine goR F7 ?_
                        refine condK_f (by simp [ltI]; omega) ?_
                        obtain rfl := sj e182
                        try dsimp only at e156
                        exact hK158 () _ _ (Gh.refl _) ⟨e156, pv F7, pv F7, pg⟩
                      · obtain ⟨hx191, hlt189, hd193⟩ := drop_next hd186
                        have ew190 := wrap_succ hlt189 (hb1).len
                        rw [ast_checker_stmt_L2] at e182; try dsimp only at e182
                        have F8 := an h11_3 (an h11_5 (an h11_94 (an h11_95 (an h11_96 (an g11_0 (an g11_1 (an n11_0 (an h12 (an h16 (an hlt189 ew190))))))))))
                        refine goR F8 ?_
                        refine condK_t (by simp [ltI]; omega) ?_
                        have f194 : partCV Tryd.prog 50 (encL a2.Exprs) (k171 * 5) = some (.agg (eA x192)) := partCV_enc hx191 (f := 0) (by simp)
                        have F9 := an F8 f194
                        refine goD F9 ?_
                        revert e182; refine bK fun y197 hx198 e182 => ?_
                        refine cP F9 (at_ast_CheckExpr hx198) ?_
                        refine goD F9 ?_
                        revert e182; refine cS F9 ?_ ?_ <;> intro h199 e182
                        · refine goD F9 ?_
                          obtain rfl := sj e182
                          try dsimp only at e156
                          obtain rfl := sj e156
                          try dsimp only at hs
                          refine hX159 _ _ (by simp) ?_
                          refine goD F9 ?_
                          obtain rfl := sj hs
                          exact hQ _ _ (rg F9 (Gh.refl _))
                        · refine goD F9 ?_
                          exact hL185 (q188, (k171 + 1)) _ _ (Gh.refl _) ⟨e182, hd193, pv F9, pv F9, pv F9, pv F9, pv F9, pv F9, pv F9, pg⟩ (by simp)
                    · obtain ⟨e156, h10_5, g10_0, n10_g⟩ := hp
                      obtain rfl := sj e156
                      try dsimp only at hs
                      have n10_0 : ¬ (σ9.gen = 0) := by omega
                      obtain ⟨g201, hs⟩ := guardO_some hs
                      have g201a : (eqI a2.Kind 6) = true → 0 ≤ (1 : Int) := fun hg => (under_elem g201 hg).1
                      have g201b : (eqI a2.Kind 6) = true → (1 : Int) < (a2.Exprs.length : Int) := fun hg => (under_elem g201 hg).2.1
                      have g201n : (eqI a2.Kind 6) = true → 1 < a2.Exprs.length := fun hg => by simpa using (under_elem g201 hg).2.2.1
                      have g201c : (eqI a2.Kind 6) = true → a2.Exprs[1]? = some (gd a2.Exprs 1) := fun hg => by simpa using (under_elem g201 hg).2.2.2
                      have f202 : (eqI a2.Kind 6) = true → partCV Tryd.prog 50 (encL a2.Exprs) (1 * 5) = some (.agg [nC ((gd a2.Exprs 1).Kind), nC ((gd a2.Exprs 1).N), tC ((gd a2.Exprs 1).Name), nC ((gd a2.Exprs 1).Fn), sC ((gd a2.Exprs 1).Args)]) := fun hg => partCV_enc (g201c hg) (f := 0) (by simp)
                      have F10 := an h10_5 (an g10_0 (an n10_0 (an h12 (an h16 (an g201a (an g201b (an g201n f202)))))))
                      refine goG F10 F10 ?_
                      obtain ⟨g203, hs⟩ := guardO_some hs
                      refine gsel_call (fun hg => at_ast_Depth (under_call g203 hg)) (fun hg => by (try simp at hg); (first | simp [hg, F10]); try rfl) (fun hg => by (try simp at hg); simp [hg, F10]) (by simp) ?_
                      refine goG F10 F10 ?_
                      revert hs; refine cS F10 ?_ ?_ <;> intro h204 hs
                      · refine goG F10 F10 ?_
                        obtain rfl := sj hs
                        exact hQ _ _ (rg F10 (Gh.refl _))
                      · refine goG F10 F10 ?_
                        obtain rfl := sj hs
                        exact hQ _ _ (rg F10 (Gh.refl _))
          · replace hs := condF h12 hs
            simp only [Bool.not_eq_true', Bool.not_eq_false', Bool.not_not] at h12
            refine goG h12 h12 ?_
            refine goG h12 h12 ?_
            refine gsel_split (fun h206 => ?_) (fun h206 => ?_)
            · replace hs := condT h206 hs
              have F11 := an h12 h206
              refine goG F11 F11 ?_
              revert hs; refine bK fun y207 hx208 hs => ?_
              refine cA F11 (at_ast_checker_stmt_1 hx208) ?_
              refine goG F11 F11 ?_
              revert hs; refine cS F11 ?_ ?_ <;> intro h209 hs
              · refine goG F11 F11 ?_
                obtain rfl := sj hs
                exact hQ _ _ (rg F11 (Gh.refl _))
              · refine goG F11 F11 ?_
                revert hs; refine cS F11 ?_ ?_ <;> intro h210 hs
                · refine goG F11 F11 ?_
                  obtain rfl := sj hs
                  exact hQ _ _ (rg F11 (Gh.refl _))
                · refine goG F11 F11 ?_
                  revert hs; refine cS F11 ?_ ?_ <;> intro h211 hs
                  · refine goG F11 F11 ?_
                    obtain rfl := sj hs
                    exact hQ _ _ (rg F11 (Gh.refl _))
                  · refine goG2 F11 F11 ?_
                    revert hs; refine bK fun o254 e253 hs => ?_
                    refine awp_cutK (fun (v : Unit) (σ : St) => some (.inl v) = some o254 ∧ σ.env 5 = .cell (.ref (.o 1 1 0) 0) ∧ σ.hp (.o 1 1 0) = some (.cells (eA a2)) ∧ 13 ≤ σ.gen) (by rfl) (fun Q hK255 hX256 => ?_) (fun v σ15 hp => ?_)
                    · refine goG F11 F11 ?_
                      revert e253; refine bK fun o280 e279 e253 => ?_
                      refine awp_loopW (fun (v : (List Expr) × Nat) (σ : St) => ast_checker_stmt_L3 fuelN a0 v.1 v.2 = some o280 ∧ v.1 = a2.Exprs.drop v.2 ∧ σ.env 3 = .cell (.ref (.o 1 0 0) 0) ∧ σ.env 5 = .cell (.ref (.o 1 1 0) 0) ∧ σ.env 94 = .cell (sC a2.Exprs) ∧ σ.env 95 = iV .i64 ((a2.Exprs.length : Nat) : Int) ∧ σ.env 96 = iV .i64 ((v.2 : Nat) : Int) ∧ σ.hp (.o 1 0 0) = some (.cells [.ep [.sl (a0.objects.f 0).length (encL (a0.objects.f 0)), .sl (a0.objects.f 1).length (encL (a0.objects.f 1)), .sl (a0.objects.f 2).length (encL (a0.objects.f 2)), .sl (a0.objects.f 3).length (encL (a0.objects.f 3)), .sl (a0.objects.f 4).length (encL (a0.objects.f 4)), .sl a0.locals.length (encL a0.locals)] 0]) ∧ σ.hp (.o 1 1 0) = some (.cells (eA a2)) ∧ 13 ≤ σ.gen) (fun v => v.1.length) _ (Gh.refl _) (a2.Exprs, 0) ⟨e279, by simp, pv F11, pv F11, pv F11, pv F11, pv F11, pv F11, pv F11, pg⟩ fun v σ18 hp L281 hL282 => ?_
                      obtain ⟨q284, k268⟩ := v
                      dsimp only at hp hL282
                      obtain ⟨e279, hd283, h17_3, h17_5, h17_94, h17_95, h17_96, g17_0, g17_1, n17_g⟩ := hp
                      have n17_0 : ¬ (σ18.gen = 0) := by omega
                      rcases q284 with _ | ⟨x289, q285⟩
                      · have hlt286 := drop_end hd283
                        rw [ast_checker_stmt_L3] at e279; try dsimp only at e279
                        have F12 := an h17_3 (an h17_5 (an h17_94 (an h17_95 (an h17_96 (an g17_0 (an g17_1 (an n17_0 (an h12 h206))))))))
                        refine goR F12 ?_
                        refine condK_f (by simp [ltI]; omega) ?_
                        obtain rfl := sj e279
                        try dsimp only at e253
                        exact hK255 () _ _ (Gh.refl _) ⟨e253, pv F12, pv F12, pg⟩
                      · obtain ⟨hx288, hlt286, hd290⟩ := drop_next hd283
                        have ew287 := wrap_succ hlt286 (hb1).len
                        rw [ast_checker_stmt_L3] at e279; try dsimp only at e279
                        have F13 := an h17_3 (an h17_5 (an h17_94 (an h17_95 (an h17_96 (an g17_0 (an g17_1 (an n17_0 (an h12 (an h206 (an hlt286 ew287))))))))))
                        refine goR F13 ?_
                        refine condK_t (by simp [ltI]; omega) ?_
                        have f291 : partCV Tryd.prog 50 (encL a2.Exprs) (k268 * 5) = some (.agg (eA x289)) := partCV_enc hx288 (f := 0) (by simp)
                        have F14 := an F13 f291
                        refine goD F14 ?_
                        revert e279; refine bK fun y294 hx295 e279 => ?_
                        refine cP F14 (at_ast_CheckExpr hx295) ?_
                        refine goD F14 ?_
                        revert e279; refine cS F14 ?_ ?_ <;> intro h296 e279
                        · refine goD F14 ?_
                          obtain rfl := sj e279
                          try dsimp only at e253
                          obtain rfl := sj e253
                          try dsimp only at hs
                          refine hX256 _ _ (by simp) ?_
                          refine goD F14 ?_
                          obtain rfl := sj hs
                          exact hQ _ _ (rg F14 (Gh.refl _))
                        · refine goD F14 ?_
                          exact hL282 (q285, (k268 + 1)) _ _ (Gh.refl _) ⟨e279, hd290, pv F14, pv F14, pv F14, pv F14, pv F14, pv F14, pv F14, pg⟩ (by simp)
                    · obtain ⟨e253, h16_5, g16_0, n16_g⟩ := hp
                      obtain rfl := sj e253
                      try dsimp only at hs
                      have n16_0 : ¬ (σ15.gen = 0) := by omega
                      obtain ⟨g298, hs⟩ := guardO_some hs
                      have g298a : (eqI a2.Kind 6) = true → 0 ≤ (1 : Int) := fun hg => (under_elem g298 hg).1
                      have g298b : (eqI a2.Kind 6) = true → (1 : Int) < (a2.Exprs.length : Int) := fun hg => (under_elem g298 hg).2.1
                      have g298n : (eqI a2.Kind 6) = true → 1 < a2.Exprs.length := fun hg => by simpa using (under_elem g298 hg).2.2.1
                      have g298c : (eqI a2.Kind 6) = true → a2.Exprs[1]? = some (gd a2.Exprs 1) := fun hg => by simpa using (under_elem g298 hg).2.2.2
                      have f299 : (eqI a2.Kind 6) = true → partCV Tryd.prog 50 (encL a2.Exprs) (1 * 5) = some (.agg [nC ((gd a2.Exprs 1).Kind), nC ((gd a2.Exprs 1).N), tC ((gd a2.Exprs 1).Name), nC ((gd a2.Exprs 1).Fn), sC ((gd a2.Exprs 1).Args)]) := fun hg => partCV_enc (g298c hg) (f := 0) (by simp)
                      have F15 := an h16_5 (an g16_0 (an n16_0 (an h12 (an h206 (an g298a (an g298b (an g298n f299)))))))
                      refine goG F15 F15 ?_
                      obtain ⟨g300, hs⟩ := guardO_some hs
                      refine gsel_call (fun hg => at_ast_Depth (under_call g300 hg)) (fun hg => by (try simp at hg); (first | simp [hg, F15]); try rfl) (fun hg => by (try simp at hg); simp [hg, F15]) (by simp) ?_
                      refine goG F15 F15 ?_
                      revert hs; refine cS F15 ?_ ?_ <;> intro h301 hs
                      · refine goG F15 F15 ?_
                        obtain rfl := sj hs
                        exact hQ _ _ (rg F15 (Gh.refl _))
                      · refine goG F15 F15 ?_
                        obtain rfl := sj hs
                        exact hQ _ _ (rg F15 (Gh.refl _))
            · replace hs := condF h206 hs
              have F16 := an h12 h206
              refine goG F16 F16 ?_
              refine goG F16 F16 ?_
              revert hs; refine cS F16 ?_ ?_ <;> intro h303 hs
              · refine goG F16 F16 ?_
                obtain rfl := sj hs
                exact hQ _ _ (rg F16 (Gh.refl _))
              · refine goG F16 F16 ?_
                revert hs; refine cS F16 ?_ ?_ <;> intro h304 hs
                · refine goG F16 F16 ?_
                  obtain rfl := sj hs
                  exact hQ _ _ (rg F16 (Gh.refl _))
                · refine goG2 F16 F16 ?_
                  revert hs; refine bK fun o347 e346 hs => ?_
                  refine awp_cutK (fun (v : Unit) (σ : St) => some (.inl v) = some o347 ∧ σ.env 5 = .cell (.ref (.o 1 1 0) 0) ∧ σ.hp (.o 1 1 0) = some (.cells (eA a2)) ∧ 13 ≤ σ.gen) (by rfl) (fun Q hK348 hX349 => ?_) (fun v σ21 hp => ?_)
                  · refine goG F16 F16 ?_
                    revert e346; refine bK fun o373 e372 e346 => ?_
                    refine awp_loopW (fun (v : (List Expr) × Nat) (σ : St) => ast_checker_stmt_L4 fuelN a0 v.1 v.2 = some o373 ∧ v.1 = a2.Exprs.drop v.2 ∧ σ.env 3 = .cell (.ref (.o 1 0 0) 0) ∧ σ.env 5 = .cell (.ref (.o 1 1 0) 0) ∧ σ.env 94 = .cell (sC a2.Exprs) ∧ σ.env 95 = iV .i64 ((a2.Exprs.length : Nat) : Int) ∧ σ.env 96 = iV .i64 ((v.2 : Nat) : Int) ∧ σ.hp (.o 1 0 0) = some (.cells [.ep [.sl (a0.objects.f 0).length (encL (a0.objects.f 0)), .sl (a0.objects.f 1).length (encL (a0.objects.f 1)), .sl (a0.objects.f 2).length (encL (a0.objects.f 2)), .sl (a0.objects.f 3).length (encL (a0.objects.f 3)), .sl (a0.objects.f 4).length (encL (a0.objects.f 4)), .sl a0.locals.length (encL a0.locals)] 0]) ∧ σ.hp (.o 1 1 0) = some (.cells (eA a2)) ∧ 13 ≤ σ.gen) (fun v => v.1.length) _ (Gh.refl _) (a2.Exprs, 0) ⟨e372, by simp, pv F16, pv F16, pv F16, pv F16, pv F16, pv F16, pv F16, pg⟩ fun v σ24 hp L374 hL375 => ?_
                    obtain ⟨q377, k361⟩ := v
                    dsimp only at hp hL375
                    obtain ⟨e372, hd376, h23_3, h23_5, h23_94, h23_95, h23_96, g23_0, g23_1, n23_g⟩ := hp
                    have n23_0 : ¬ (σ24.gen = 0) := by omega
                    rcases q377 with _ | ⟨x382, q378⟩
                    · have hlt379 := drop_end hd376
                      rw [ast_checker_stmt_L4] at e372; try dsimp only at e372
                      have F17 := an h23_3 (an h23_5 (an h23_94 (an h23_95 (an h23_96 (an g23_0 (an g23_1 (an n23_0 (an h12 h206))))))))
                      refine goR F17 ?_
                      refine condK_f (by simp [ltI]; omega) ?_
                      obtain rfl := sj e372
                      try dsimp only at e346
                      exact hK348 () _ _ (Gh.refl _) ⟨e346, pv F17, pv F17, pg⟩
                    · obtain ⟨hx381, hlt379, hd383⟩ := drop_next hd376
                      have ew380 := wrap_succ hlt379 (hb1).len
                      rw [ast_checker_stmt_L4] at e372; try dsimp only at e372
                      have F18 := an h23_3 (an h23_5 (an h23_94 (an h23_95 (an h23_96 (an g23_0 (an g23_1 (an n23_0 (an h12 (an h206 (an hlt379 ew380))))))))))
                      refine goR F18 ?_
                      refine condK_t (by simp [ltI]; omega) ?_
                      have f384 : partCV Tryd.prog 50 (encL a2.Exprs) (k361 * 5) = some (.agg (eA x382)) := partCV_enc hx381 (f := 0) (by simp)
                      have F19 := an F18 f384
                      refine goD F19 ?_
                      revert e372; refine bK fun y387 hx388 e372 => ?_
                      refine cP F19 (at_ast_CheckExpr hx388) ?_
                      refine goD F19 ?_
                      revert e372; refine cS F19 ?_ ?_ <;> intro h389 e372
                      · refine goD F19 ?_
                        obtain rfl := sj e372
                        try dsimp only at e346
                        obtain rfl := sj e346
                        try dsimp only at hs
                        refine hX349 _ _ (by simp) ?_
                        refine goD F19 ?_
                        obtain rfl := sj hs
                        exact hQ _ _ (rg F19 (Gh.refl _))
                      · refine goD F19 ?_
                        exact hL375 (q378, (k361 + 1)) _ _ (Gh.refl _) ⟨e372, hd383, pv F19, pv F19, pv F19, pv F19, pv F19, pv F19, pv F19, pg⟩ (by simp)
                  · obtain ⟨e346, h22_5, g22_0, n22_g⟩ := hp
                    obtain rfl := sj e346
                    try dsimp only at hs
                    have n22_0 : ¬ (σ21.gen = 0) := by omega
                    obtain ⟨g391, hs⟩ := guardO_some hs
                    have g391a : (eqI a2.Kind 6) = true → 0 ≤ (1 : Int) := fun hg => (under_elem g391 hg).1
                    have g391b : (eqI a2.Kind 6) = true → (1 : Int) < (a2.Exprs.length : Int) := fun hg => (under_elem g391 hg).2.1
                    have g391n : (eqI a2.Kind 6) = true → 1 < a2.Exprs.length := fun hg => by simpa using (under_elem g391 hg).2.2.1
                    have g391c : (eqI a2.Kind 6) = true → a2.Exprs[1]? = some (gd a2.Exprs 1) := fun hg => by simpa using (under_elem g391 hg).2.2.2
                    have f392 : (eqI a2.Kind 6) = true → partCV Tryd.prog 50 (encL a2.Exprs) (1 * 5) = some (.agg [nC ((gd a2.Exprs 1).Kind), nC ((gd a2.Exprs 1).N), tC ((gd a2.Exprs 1).Name), nC ((gd a2.Exprs 1).Fn), sC ((gd a2.Exprs 1).Args)]) := fun hg => partCV_enc (g391c hg) (f := 0) (by simp)
                    have F20 := an h22_5 (an g22_0 (an n22_0 (an h12 (an h206 (an g391a (an g391b (an g391n f392)))))))
                    refine goG F20 F20 ?_
                    obtain ⟨g393, hs⟩ := guardO_some hs
                    refine gsel_call (fun hg => at_ast_Depth (under_call g393 hg)) (fun hg => by (try simp at hg); (first | simp [hg, F20]); try rfl) (fun hg => by (try simp at hg); simp [hg, F20]) (by simp) ?_
                    refine goG F20 F20 ?_
                    revert hs; refine cS F20 ?_ ?_ <;> intro h394 hs
                    · refine goG F20 F20 ?_
                      obtain rfl := sj hs
                      exact hQ _ _ (rg F20 (Gh.refl _))
                    · refine goG F20 F20 ?_
                      obtain rfl := sj hs
                      exact hQ _ _ (rg F20 (Gh.refl _))
end Go.Dc
end
section
set_option linter.all false
namespace Go.Dc
open Go Go.Hw Go.Proofs
set_option maxRecDepth 100000

def r16_known (a0 : Int) : Option Bool :=
  some (andB (!(ltI a0 1)) (!(ltI 20 a0)))

end Go.Dc
end
section
set_option linter.all false
namespace Go.Dc
open Go Go.Hw Go.Proofs
set_option maxRecDepth 100000

def r16_fields (a0 : Int) : Option ByteArray :=
  Option.bind (some ([(⟨#[78, 49]⟩ : ByteArray), (⟨#[78, 118, 79]⟩ : ByteArray), (⟨#[118, 79, 49]⟩ : ByteArray), (⟨#[78, 118, 79, 49]⟩ : ByteArray), (⟨#[78, 118, 79, 49]⟩ : ByteArray), (⟨#[78, 118, 79, 50]⟩ : ByteArray), (⟨#[]⟩ : ByteArray), (⟨#[78, 118, 70, 79, 49]⟩ : ByteArray), (⟨#[109]⟩ : ByteArray), (⟨#[109]⟩ : ByteArray), (⟨#[78, 109]⟩ : ByteArray), (⟨#[99, 77]⟩ : ByteArray), (⟨#[99]⟩ : ByteArray), (⟨#[99]⟩ : ByteArray), (⟨#[78, 112, 49]⟩ : ByteArray), (⟨#[49]⟩ : ByteArray), (⟨#[49]⟩ : ByteArray), (⟨#[49, 66, 69]⟩ : ByteArray), (⟨#[49, 66]⟩ : ByteArray), (⟨#[]⟩ : ByteArray)])) (fun l1 => Option.bind (getI l1 (IntKind.i64.wrap (a0 - 1))) (fun x3 => some x3))

end Go.Dc
end
section
set_option linter.all false
namespace Go.Dc
open Go Go.Hw Go.Proofs
set_option maxRecDepth 100000
def r16_uses_L1 (a1 : UInt8) (y1 : ByteArray) : Nat → Nat → Option (Unit ⊕ Bool)
  | 0, k40 => some (.inl ())
  | q52 + 1, k40 => Option.bind (y1[k40]?) (fun c57 => cond (eqI (c57.toNat : Int) (a1.toNat : Int)) (some (.inr true)) (r16_uses_L1 a1 y1 q52 (k40 + 1)))

def r16_uses (a0 : Int) (a1 : UInt8) : Option Bool :=
  Option.bind (r16_fields a0) (fun y1 => Option.bind (α := Unit ⊕ Bool) (guardO (lenB y1.size) (Option.bind (r16_uses_L1 a1 y1 y1.size 0) (fun o => match o with | .inl _ => some (.inl ()) | .inr r60 => some (.inr r60)))) (fun o => match o with | .inl _ => some false | .inr r61 => some r61))

end Go.Dc
end
section
set_option linter.all false
namespace Go.Dc
open Go Go.Hw Go.Proofs
set_option maxRecDepth 100000

def r16_field (a0 : Stmt) : Option Bool :=
  Option.bind (r16_uses a0.Kind 118) (fun y1 => guardO (orB (!(!y1)) ((r16_uses a0.Kind 109).isSome)) (guardO (orB (!(!(orB y1 ((r16_uses a0.Kind 109).getD default)))) ((r16_uses a0.Kind 99).isSome)) (guardO (orB (!(!(orB (orB y1 ((r16_uses a0.Kind 109).getD default)) ((r16_uses a0.Kind 99).getD default)))) ((r16_uses a0.Kind 112).isSome)) (Option.bind (r16_uses a0.Kind 49) (fun y6 => Option.bind (α := Nat) (cond y6 (some (1)) (some (0))) (fun k9 => Option.bind (r16_uses a0.Kind 50) (fun y15 => Option.bind (α := Nat) (cond y15 (some (2)) (some (k9))) (fun k18 => Option.bind (r16_uses a0.Kind 78) (fun y24 => guardO (orB (!(!(orB (andB (!y24) (!(eqS a0.Name (⟨#[]⟩ : ByteArray)))) (andB (!(orB (orB (orB y1 ((r16_uses a0.Kind 109).getD default)) ((r16_uses a0.Kind 99).getD default)) ((r16_uses a0.Kind 112).getD default))) (!(eqS a0.Obj (⟨#[]⟩ : ByteArray))))))) ((r16_uses a0.Kind 77).isSome)) (guardO (orB (!(!(orB (orB (andB (!y24) (!(eqS a0.Name (⟨#[]⟩ : ByteArray)))) (andB (!(orB (orB (orB y1 ((r16_uses a0.Kind 109).getD default)) ((r16_uses a0.Kind 99).getD default)) ((r16_uses a0.Kind 112).getD default))) (!(eqS a0.Obj (⟨#[]⟩ : ByteArray))))) (andB (!((r16_uses a0.Kind 77).getD default)) (!(eqS a0.Other (⟨#[]⟩ : ByteArray))))))) ((r16_uses a0.Kind 70).isSome)) (guardO (orB (!(!(orB (orB (orB (andB (!y24) (!(eqS a0.Name (⟨#[]⟩ : ByteArray)))) (andB (!(orB (orB (orB y1 ((r16_uses a0.Kind 109).getD default)) ((r16_uses a0.Kind 99).getD default)) ((r16_uses a0.Kind 112).getD default))) (!(eqS a0.Obj (⟨#[]⟩ : ByteArray))))) (andB (!((r16_uses a0.Kind 77).getD default)) (!(eqS a0.Other (⟨#[]⟩ : ByteArray))))) (andB (!((r16_uses a0.Kind 70).getD default)) (!(eqI a0.Fn 0)))))) ((r16_uses a0.Kind 79).isSome)) (cond (orB (orB (orB (orB (andB (!y24) (!(eqS a0.Name (⟨#[]⟩ : ByteArray)))) (andB (!(orB (orB (orB y1 ((r16_uses a0.Kind 109).getD default)) ((r16_uses a0.Kind 99).getD default)) ((r16_uses a0.Kind 112).getD default))) (!(eqS a0.Obj (⟨#[]⟩ : ByteArray))))) (andB (!((r16_uses a0.Kind 77).getD default)) (!(eqS a0.Other (⟨#[]⟩ : ByteArray))))) (andB (!((r16_uses a0.Kind 70).getD default)) (!(eqI a0.Fn 0)))) (andB (!((r16_uses a0.Kind 79).getD default)) (!(eqI a0.Order 0)))) (some false) (guardO (orB (!(eqI ((a0.Exprs.length : Nat) : Int) ((k18 : Nat) : Int))) ((r16_uses a0.Kind 66).isSome)) (guardO (orB (!(andB (eqI ((a0.Exprs.length : Nat) : Int) ((k18 : Nat) : Int)) (orB ((r16_uses a0.Kind 66).getD default) (eqI ((a0.Body.length : Nat) : Int) 0)))) ((r16_uses a0.Kind 69).isSome)) (some (andB (andB (eqI ((a0.Exprs.length : Nat) : Int) ((k18 : Nat) : Int)) (orB ((r16_uses a0.Kind 66).getD default) (eqI ((a0.Body.length : Nat) : Int) 0))) (orB ((r16_uses a0.Kind 69).getD default) (eqI ((a0.Else.length : Nat) : Int) 0))))))))))))))))))

end Go.Dc
end
section
set_option linter.all false
namespace Go.Dc
open Go Go.Hw Go.Proofs
set_option maxRecDepth 100000

def r16_C_object (a0 : R16C) (a1 : Stmt) : Option Bool :=
  Option.bind (r16_uses a1.Kind 118) (fun y10 => guardO (orB (!y10) ((r16_in a0.Vars a1.Obj).isSome)) (guardO (orB (!(!(andB y10 (!((r16_in a0.Vars a1.Obj).getD default))))) ((r16_uses a1.Kind 109).isSome)) (guardO (orB (!(andB (!(andB y10 (!((r16_in a0.Vars a1.Obj).getD default)))) ((r16_uses a1.Kind 109).getD default))) ((r16_in a0.U.Mutexes a1.Obj).isSome)) (guardO (orB (!(!(orB (andB y10 (!((r16_in a0.Vars a1.Obj).getD default))) (andB ((r16_uses a1.Kind 109).getD default) (!((r16_in a0.U.Mutexes a1.Obj).getD default)))))) ((r16_uses a1.Kind 99).isSome)) (guardO (orB (!(andB (!(orB (andB y10 (!((r16_in a0.Vars a1.Obj).getD default))) (andB ((r16_uses a1.Kind 109).getD default) (!((r16_in a0.U.Mutexes a1.Obj).getD default))))) ((r16_uses a1.Kind 99).getD default))) ((r16_in a0.U.Conds a1.Obj).isSome)) (guardO (orB (!(!(orB (orB (andB y10 (!((r16_in a0.Vars a1.Obj).getD default))) (andB ((r16_uses a1.Kind 109).getD default) (!((r16_in a0.U.Mutexes a1.Obj).getD default)))) (andB ((r16_uses a1.Kind 99).getD default) (!((r16_in a0.U.Conds a1.Obj).getD default)))))) ((r16_uses a1.Kind 112).isSome)) (guardO (orB (!(andB (!(orB (orB (andB y10 (!((r16_in a0.Vars a1.Obj).getD default))) (andB ((r16_uses a1.Kind 109).getD default) (!((r16_in a0.U.Mutexes a1.Obj).getD default)))) (andB ((r16_uses a1.Kind 99).getD default) (!((r16_in a0.U.Conds a1.Obj).getD default))))) ((r16_uses a1.Kind 112).getD default))) ((r16_in a0.Procs a1.Obj).isSome)) (cond (orB (orB (orB (andB y10 (!((r16_in a0.Vars a1.Obj).getD default))) (andB ((r16_uses a1.Kind 109).getD default) (!((r16_in a0.U.Mutexes a1.Obj).getD default)))) (andB ((r16_uses a1.Kind 99).getD default) (!((r16_in a0.U.Conds a1.Obj).getD default)))) (andB ((r16_uses a1.Kind 112).getD default) (!((r16_in a0.Procs a1.Obj).getD default)))) (some false) (Option.bind (r16_uses a1.Kind 77) (fun y23 => guardO (orB (!y23) ((r16_in a0.U.Mutexes a1.Other).isSome)) (some (orB (!y23) ((r16_in a0.U.Mutexes a1.Other).getD default)))))))))))))

end Go.Dc
end
section
set_option linter.all false
namespace Go.Dc
open Go Go.Hw Go.Proofs
set_option maxRecDepth 100000
def r16_C_statement_L1 (fuelN : Nat) (a0 : R16C) : List Expr → Nat → Option (Unit ⊕ Int)
  | [], k85 => some (.inl ())
  | x109 :: q105, k85 => Option.bind (r16_CheckExpr fuelN x109 a0.Locals) (fun y115 => cond (!(eqI y115 0)) (some (.inr y115)) (r16_C_statement_L1 fuelN a0 q105 (k85 + 1)))

def r16_C_statement (fuelN : Nat) (a0 : R16C) (a1 : Stmt) (a2 : Int) : Option Int :=
  cond (ltI 12 a2) (some 4) (Option.bind (r16_known a1.Kind) (fun y2 => cond (!y2) (some 8) (Option.bind (r16_field a1) (fun y5 => cond (!y5) (some 9) (Option.bind (r16_uses a1.Kind 78) (fun y8 => guardO (orB (!y8) ((r16_Name a1.Name).isSome)) (cond (andB y8 (!((r16_Name a1.Name).getD default))) (some 6) (Option.bind (r16_C_object a0 a1) (fun y12 => cond (!y12) (some 11) (Option.bind (r16_uses a1.Kind 70) (fun y15 => cond (andB y15 (orB (ltI a1.Fn 1) (ltI 10 a1.Fn))) (some 8) (cond (orB (ltI a1.Order 0) (ltI 2 a1.Order)) (some 13) (Option.bind (α := Unit ⊕ Int) (Option.bind (r16_C_statement_L1 fuelN a0 a1.Exprs 0) (fun o => match o with | .inl _ => some (.inl ()) | .inr r118 => some (.inr r118))) (fun o => match o with | .inl _ => guardO (orB (!(eqI a1.Kind 6)) (inB (1 : Int) a1.Exprs.length)) (guardO (orB (!(eqI a1.Kind 6)) ((r16_Depth fuelN (gd a1.Exprs 1)).isSome)) (cond (andB (eqI a1.Kind 6) (ltI 2 ((r16_Depth fuelN (gd a1.Exprs 1)).getD default))) (some 4) (some 0))) | .inr r123 => some r123))))))))))))))

end Go.Dc
end
section
set_option linter.all false
namespace Go.Dc.Pl
open Go Go.Hw Go.Dc
/-! What the kinds of statements use. -/
def asg (k : Int) : Bool := decide (k = 1 ∨ k = 2 ∨ k = 4 ∨ k = 5 ∨ k = 6 ∨ k = 8 ∨ k = 11 ∨ k = 15)
def objK (k : Int) : Int := if k = 2 ∨ k = 3 ∨ k = 4 ∨ k = 5 ∨ k = 6 ∨ k = 8 then 1 else if k = 9 ∨ k = 10 ∨ k = 11 then 2 else if k = 12 ∨ k = 13 ∨ k = 14 then 3 else if k = 15 then 4 else 0
def ordK (k : Int) : Bool := decide (k = 2 ∨ k = 3 ∨ k = 4 ∨ k = 5 ∨ k = 6 ∨ k = 8)
def nexK (k : Int) : Int := if k = 3 ∨ k = 4 ∨ k = 5 ∨ k = 8 ∨ k = 15 ∨ k = 1 ∨ k = 16 ∨ k = 17 ∨ k = 18 ∨ k = 19 then 1 else if k = 6 then 2 else 0
def okK (k : Int) : Bool := decide (1 ≤ k ∧ k ≤ 20)
structure Tab (k : Int) : Prop where
  us : ast_uses k = some ⟨objK k, ordK k, nexK k⟩
  N : r16_uses k 78 = some (asg k)
  v : r16_uses k 118 = some (decide (objK k = 1))
  m : r16_uses k 109 = some (decide (objK k = 2))
  c : r16_uses k 99 = some (decide (objK k = 3))
  p : r16_uses k 112 = some (decide (objK k = 4))
  M : r16_uses k 77 = some (decide (k = 12))
  F : r16_uses k 70 = some (decide (k = 8))
  O : r16_uses k 79 = some (ordK k)
  one : r16_uses k 49 = some (decide (nexK k = 1))
  two : r16_uses k 50 = some (decide (nexK k = 2))
  B : r16_uses k 66 = some (decide (k = 18 ∨ k = 19))
  E : r16_uses k 69 = some (decide (k = 18))
  oc : objK k = 0 ∨ objK k = 1 ∨ objK k = 2 ∨ objK k = 3 ∨ objK k = 4
  nc : nexK k = 0 ∨ nexK k = 1 ∨ nexK k = 2
def emp : ByteArray := ⟨#[]⟩
def badF (s : Stmt) : Bool := (!asg s.Kind && !eqS s.Name emp) || (decide (objK s.Kind = 0) && !eqS s.Obj emp) || (!decide (s.Kind = 12) && !eqS s.Other emp) || (!decide (s.Kind = 8) && !decide (s.Fn = 0)) || (!ordK s.Kind && !decide (s.Order = 0)) ||
  !decide ((s.Exprs.length : Int) = nexK s.Kind) || (!decide (s.Kind = 18 ∨ s.Kind = 19) && !decide (s.Body.length = 0)) || (!decide (s.Kind = 18) && !decide (s.Else.length = 0))
/-! The first error of a statement. -/
def errL (ls : List ByteArray) : List Expr → Int
  | [] => 0
  | x :: r => if errE ls x = 0 then errL ls r else errE ls x
def badO (o : Arr 5 (List ByteArray)) (s : Stmt) : Bool := (!decide (objK s.Kind = 0) && !isIn (o.f (objK s.Kind).toNat) s.Obj) || (decide (s.Kind = 12) && !isIn (o.f 2) s.Other)
def stE (o : Arr 5 (List ByteArray)) (ls : List ByteArray) (lvl : Int) (s : Stmt) : Int :=
  if 12 < lvl then 4 else if okK s.Kind = false then 8 else if badF s = true then 9 else if asg s.Kind = true ∧ okWord s.Name = false then 6 else if badO o s = true then 11 else if s.Kind = 8 ∧ (s.Fn < 1 ∨ 10 < s.Fn) then 8
  else if ordK s.Kind = true ∧ (s.Order < 0 ∨ 2 < s.Order) then 13 else if errL ls s.Exprs = 0 then (if s.Kind = 6 ∧ 2 < depE (gd s.Exprs 1) then 4 else 0) else errL ls s.Exprs
/-- The end of both: the expressions, and what a CAS asks of them. -/
def tailE (ls : List ByteArray) (s : Stmt) : Int := if errL ls s.Exprs = 0 then (if s.Kind = 6 ∧ 2 < depE (gd s.Exprs 1) then 4 else 0) else errL ls s.Exprs
section
variable {N : Nat} {s : Stmt} (hs : nL s.Exprs ≤ N) (hb : nL s.Exprs ≤ 1048576)
include hs hb
end
end Go.Dc.Pl
end
section
set_option linter.all false
namespace Go.Dc
open Go Go.Hw Go.Proofs
set_option maxRecDepth 100000

def ast_stmts (a0 : List Stmt) (a1 : Int) : Option ((List Stmt) × Int) :=
  some (a0, a1)

set_option maxHeartbeats 2000000 in
theorem at_ast_stmts {a0 : List Stmt} {a1 : Int} {r : (List Stmt) × Int} (hs : ast_stmts a0 a1 = some r) : At Tryd.prog 79 [.cell (sC a0), iV .i64 a1] (.cell (.fn 124 [.inr (.bx [.sl r.1.length (encL r.1)]), .inr (.bx [.c (.int .i64 r.2)])])) := by
  refine at_bound (by kernel_rfl) fun hb => ?_
  have hb1 : LenOk (.sl a0.length (encL a0)) := lkc hb
  refine at_code mixed Tryd.func79 (by kernel_rfl) rfl (by kernel_rfl) rfl fun Q hQ => ?_
  rw [ast_stmts] at hs
  refine goR f0 ?_
  obtain rfl := sj hs
  exact hQ _ _ (rg f0 ((Gh.frz _ (.o 1 0 0)).trans (Gh.frz _ (.o 1 1 0))))
end Go.Dc
end
section
set_option linter.all false
namespace Go.Dc
open Go Go.Hw Go.Proofs
set_option maxRecDepth 100000
mutual
def itS : Stmt → Int → Option (List (Int × Stmt))
  | ⟨a, b, c, d, e, f, g, h, i⟩, n => Option.bind (guardO (lenB h.length) (itL h (IntKind.i64.wrap (n + 1)))) fun x => Option.bind (guardO (lenB i.length) (itL i (IntKind.i64.wrap (n + 1)))) fun y => some ((n, ⟨a, b, c, d, e, f, g, h, i⟩) :: (x ++ y))
def itL : List Stmt → Int → Option (List (Int × Stmt))
  | [], _ => some []
  | s :: r, n => Option.bind (itS s n) fun x => Option.bind (itL r n) fun y => some (x ++ y)
end
def it_stmts (l : List Stmt) (n : Int) : Option (List (Int × Stmt)) := guardO (lenB l.length) (itL l n)
theorem itS_eq (s : Stmt) (n : Int) : itS s n = Option.bind (it_stmts s.Body (IntKind.i64.wrap (n + 1))) fun x => Option.bind (it_stmts s.Else (IntKind.i64.wrap (n + 1))) fun y => some ((n, s) :: (x ++ y)) := by cases s; rw [itS]; rfl
abbrev stEv : Int × Stmt → List EV := fun y => ([.cell (.c (.int .i64 y.1)), .agg [.c (.int .i64 y.2.Kind), .c (.string y.2.Name), .c (.string y.2.Obj), .c (.string y.2.Other), .c (.int .i64 y.2.Fn), .c (.int .i64 y.2.Order), .sl y.2.Exprs.length (encL y.2.Exprs), .sl y.2.Body.length (encL y.2.Body), .sl y.2.Else.length (encL y.2.Else)]] : List EV)
theorem drop_map {α β : Type} {f : α → β} {xs : List α} {m : Nat} {y : α} {r : List α} (h : xs.drop m = y :: r) : (xs.map f)[m]? = some (f y) ∧ xs.drop (m + 1) = r ∧ m < xs.length := by
  have h1 : xs[m]? = some y := by rw [← List.head?_drop, h]; rfl
  refine ⟨by rw [List.getElem?_map, h1]; rfl, ?_, (List.getElem?_eq_some_iff.1 h1).1⟩
  rw [← List.tail_drop, h]; rfl
theorem szB (s : Stmt) : SizeOf.sizeOf s.Body < SizeOf.sizeOf s := by cases s; simp; omega
theorem szE (s : Stmt) : SizeOf.sizeOf s.Else < SizeOf.sizeOf s := by cases s; simp; omega
theorem szL {l : List Stmt} {k : Nat} {s : Stmt} (h : l[k]? = some s) : SizeOf.sizeOf s < SizeOf.sizeOf l := List.sizeOf_lt_of_mem (List.mem_of_getElem? h)
set_option maxHeartbeats 2000000 in
theorem seq_stmts : ∀ (fuel : Nat) {l : List Stmt} {n : Int} {xs : List (Int × Stmt)} (hz : SizeOf.sizeOf l < fuel) (h : it_stmts l n = some xs), SeqAt Tryd.prog 124 [.cell (.p (.bx [.sl l.length (encL l)])), .cell (.p (.bx [.c (.int .i64 n)]))] (xs.map stEv)
  | 0, l, n, xs, hz, _ => absurd hz (by omega)
  | fuel + 1, l, n, xs, hz, h => by
    obtain ⟨hlb, h⟩ := guardO_some h
    refine seq_unbx (by simp; rfl) ?_
    refine seq_code mixed Tryd.func124 (by kernel_rfl) rfl (by kernel_rfl) rfl fun ℓ Q hQ => ?_
    refine goR f0 ?_
    refine awp_loopW (fun (v : List Stmt × Nat × Nat) (σ : St) => v.1 = l.drop v.2.1 ∧ itL v.1 n = some (xs.drop v.2.2) ∧ v.2.2 ≤ xs.length ∧ σ.env 12 = iV .i64 ((v.2.1 : Nat) : Int) ∧ σ.env 10 = .cell (sC l) ∧ σ.env 11 = iV .i64 ((l.length : Nat) : Int) ∧ σ.env 2 = .cell (.ep [.c (.int .i64 n)] 0) ∧ σ.env 3 = .cell (.ref (.o 1 0 0) 0) ∧ σ.hp (.o 1 0 0) = some (.cells [.yl ℓ]) ∧ 2 ≤ σ.gen ∧ σ.acc = some ⟨ℓ, xs.map stEv, v.2.2, true⟩) (fun v => v.1.length) _ (Gh.refl _) (l, 0, 0) ⟨by simp, by simpa using h, by simp, pv f0, pv f0, pv f0, pv f0, pv f0, pv f0, pg, by simp⟩ fun v σ hp L hL => ?_
    obtain ⟨q, k, m⟩ := v
    dsimp only at hp hL
    obtain ⟨hd, hi, hm, h12, h10, h11, h2, h3, hb0, hgen, hacc⟩ := hp
    have F1 := an h12 (an h10 (an h11 (an h2 (an h3 (an hb0 hacc)))))
    rcases q with _ | ⟨s, r⟩
    · have hlt := drop_end hd
      refine goR F1 ?_
      refine condK_f (by simp [ltI]; omega) ?_
      refine goR F1 ?_
      refine hQ _ _ (seqPost_end (.inl rfl) (by simp; rfl) (by simp [hacc]; first | exact ⟨rfl, rfl⟩ | exact ⟨rfl, rfl, rfl⟩ | rfl) fun _ => ?_)
      rw [itL] at hi
      have := congrArg List.length (Option.some.inj hi)
      rw [List.length_drop, List.length_nil] at this
      rw [List.length_map]; omega
    · obtain ⟨hx, hlt, hd2⟩ := drop_next hd
      have ew := wrap_succG hlt hlb
      rw [itL] at hi
      obtain ⟨ys, hys, hi⟩ := bindO hi
      obtain ⟨zs, hzs, hi⟩ := bindO hi
      have hdm := Option.some.inj hi
      rw [itS_eq] at hys
      obtain ⟨us, hus, hys⟩ := bindO hys
      obtain ⟨vs, hvs, hys⟩ := bindO hys
      obtain rfl := Option.some.inj hys
      refine goR F1 ?_
      refine condK_t (by simp [ltI]; omega) ?_
      have f1 : partCV Tryd.prog 67 (encL l) (k * 9) = some (.agg (eA s)) := partCV_enc hx (f := 0) (by simp)
      have F2 := an f1 (an hlt F1)
      refine goR F2 ?_
      have hdm' : xs.drop m = (n, s) :: (us ++ vs ++ zs) := by rw [← hdm]; simp
      obtain ⟨hym, hdn, hml⟩ := drop_map (f := id) hdm'
      rw [List.map_id] at hym
      refine ⟨_, ⟨n, s, hym, rfl⟩, rfl, ?_, ?_⟩
      · refine goR F1 ?_
        refine awp_loopW (fun (v : Nat × Nat) (σ2 : St) => v.1 ≤ 2 ∧ xs.drop v.2 = (if v.1 = 0 then us ++ (vs ++ zs) else if v.1 = 1 then vs ++ zs else zs) ∧ v.2 ≤ xs.length ∧ σ2.env 27 = iV .i64 ((v.1 : Nat) : Int) ∧ σ2.env 26 = iV .i64 2 ∧ σ2.env 25 = .cell (.p (.sl 2 [.sl s.Body.length (encL s.Body), .sl s.Else.length (encL s.Else)])) ∧ σ2.env 12 = iV .i64 ((k : Nat) : Int) ∧ σ2.env 10 = .cell (sC l) ∧ σ2.env 11 = iV .i64 ((l.length : Nat) : Int) ∧ σ2.env 2 = .cell (.ep [.c (.int .i64 n)] 0) ∧ σ2.env 3 = .cell (.ref (.o 1 0 0) 0) ∧ σ2.hp (.o 1 0 0) = some (.cells [.yl ℓ]) ∧ 2 ≤ σ2.gen ∧ σ2.acc = some ⟨ℓ, xs.map stEv, v.2, true⟩) (fun v => 2 - v.1) _ (Gh.frz _ (.o (σ.gen + 4) 4 0)) (0, m + 1) ⟨by simp, by rw [hdn]; simp, hml, pv F1, pv F1, pv F1, pv F1, pv F1, pv F1, pv F1, pv F1, pv F1, pg, by simp⟩ fun v σ2 hp L2 hL2 => ?_
        obtain ⟨j, m2⟩ := v
        dsimp only at hp hL2
        obtain ⟨hj, hd3, hm2, k27, k26, k25, k12, k10, k11, k2, k3, kb0, kgen, kacc⟩ := hp
        have F4 := an k27 (an k26 (an k25 (an k12 (an k10 (an k11 (an k2 (an k3 (an kb0 kacc))))))))
        refine goR F4 ?_
        have ew1 : IntKind.i64.wrap 1 = 1 := wrap_i64 (by decide) (by decide)
        have ew2 : IntKind.i64.wrap 2 = 2 := wrap_i64 (by decide) (by decide)
        obtain rfl | rfl | rfl : j = 0 ∨ j = 1 ∨ j = 2 := by omega
        · refine condK_t (by simp [ltI]) ?_
          refine goR F4 ?_
          refine cP F4 (at_ast_stmts (a0 := s.Body) (a1 := IntKind.i64.wrap (n + 1)) (r := (s.Body, IntKind.i64.wrap (n + 1))) rfl) ?_
          refine goR F4 ?_
          have hd4 : xs.drop m2 = us ++ (vs ++ zs) := by simpa using hd3
          have hl4 : m2 + us.length ≤ xs.length := by have := congrArg List.length hd4; simp at this; omega
          refine awp_rangeA (gf := 124) (cs := [.bx [.sl s.Body.length (encL s.Body)], .bx [.c (.int .i64 (IntKind.i64.wrap (n + 1)))]]) (us.map stEv) (fun e hp gen A => hp (.o 1 0 0) = some (.cells [.yl ℓ]) ∧ 2 ≤ gen ∧ A = some ⟨ℓ, xs.map stEv, m2 + e, true⟩) _ (Gh.refl _) (by simp [pureFn, pureFn.go]) (seq_stmts fuel (Nat.lt_of_lt_of_le (szB s) (by have := szL hx; omega)) hus) (fun x hx => by obtain ⟨y, _, rfl⟩ := List.mem_map.1 hx; rfl) ⟨by simp [F4], by first | (simp; done) | (simp; omega), by simp [kacc]⟩ (fun e x hp gen A hx2 hI => ?_) (fun hp gen A hI => ?_)
          · obtain ⟨i1, i2, rfl⟩ := hI
            rw [List.getElem?_map] at hx2
            obtain ⟨y, hy, rfl⟩ := Option.map_eq_some_iff.1 hx2
            have hy2 : xs[m2 + e]? = some y := by
              rw [← List.getElem?_drop, hd4, List.getElem?_append_left (getN_some hy)]; exact hy
            obtain ⟨y1, y2⟩ := y
            have F5 := an i1 (an k3 (an k2 kacc))
            refine goR F5 ?_
            refine ⟨_, ⟨y1, y2, hy2, rfl⟩, rfl, ?_, ?_⟩
            · exact rPostA_normal ⟨by simp [i1], by first | (simp; done) | (simp; omega), by simp; try omega⟩
            · refine rPostA_ret ?_
              refine goR F5 ?_
              exact hQ _ _ (seqPost_end (.inr rfl) (by simp; rfl) (by simp; first | exact ⟨rfl, rfl⟩ | exact ⟨rfl, rfl, rfl⟩ | rfl) (by simp))
          · obtain ⟨i1, i2, rfl⟩ := hI
            have F6 := an i1 (an ew1 F4)
            refine goR F6 ?_
            exact hL2 (1, m2 + us.length) _ _ (Gh.refl _) ⟨by simp, by rw [← List.drop_drop, hd4, List.drop_left]; simp, hl4, pv F6, pv F6, pv F6, pv F6, pv F6, pv F6, pv F6, pv F6, pv F6, pg, by simp⟩ (by simp)
        · refine condK_t (by simp [ltI]) ?_
          refine goR F4 ?_
          refine cP F4 (at_ast_stmts (a0 := s.Else) (a1 := IntKind.i64.wrap (n + 1)) (r := (s.Else, IntKind.i64.wrap (n + 1))) rfl) ?_
          refine goR F4 ?_
          have hd4 : xs.drop m2 = vs ++ zs := by simpa using hd3
          have hl4 : m2 + vs.length ≤ xs.length := by have := congrArg List.length hd4; simp at this; omega
          refine awp_rangeA (gf := 124) (cs := [.bx [.sl s.Else.length (encL s.Else)], .bx [.c (.int .i64 (IntKind.i64.wrap (n + 1)))]]) (vs.map stEv) (fun e hp gen A => hp (.o 1 0 0) = some (.cells [.yl ℓ]) ∧ 2 ≤ gen ∧ A = some ⟨ℓ, xs.map stEv, m2 + e, true⟩) _ (Gh.refl _) (by simp [pureFn, pureFn.go]) (seq_stmts fuel (Nat.lt_of_lt_of_le (szE s) (by have := szL hx; omega)) hvs) (fun x hx => by obtain ⟨y, _, rfl⟩ := List.mem_map.1 hx; rfl) ⟨by simp [F4], by first | (simp; done) | (simp; omega), by simp [kacc]⟩ (fun e x hp gen A hx2 hI => ?_) (fun hp gen A hI => ?_)
          · obtain ⟨i1, i2, rfl⟩ := hI
            rw [List.getElem?_map] at hx2
            obtain ⟨y, hy, rfl⟩ := Option.map_eq_some_iff.1 hx2
            have hy2 : xs[m2 + e]? = some y := by
              rw [← List.getElem?_drop, hd4, List.getElem?_append_left (getN_some hy)]; exact hy
            obtain ⟨y1, y2⟩ := y
            have F5 := an i1 (an k3 (an k2 kacc))
            refine goR F5 ?_
            refine ⟨_, ⟨y1, y2, hy2, rfl⟩, rfl, ?_, ?_⟩
            · exact rPostA_normal ⟨by simp [i1], by first | (simp; done) | (simp; omega), by simp; try omega⟩
            · refine rPostA_ret ?_
              refine goR F5 ?_
              exact hQ _ _ (seqPost_end (.inr rfl) (by simp; rfl) (by simp; first | exact ⟨rfl, rfl⟩ | exact ⟨rfl, rfl, rfl⟩ | rfl) (by simp))
          · obtain ⟨i1, i2, rfl⟩ := hI
            have F6 := an i1 (an ew2 F4)
            refine goR F6 ?_
            exact hL2 (2, m2 + vs.length) _ _ (Gh.refl _) ⟨by simp, by rw [← List.drop_drop, hd4, List.drop_left]; simp, hl4, pv F6, pv F6, pv F6, pv F6, pv F6, pv F6, pv F6, pv F6, pv F6, pg, by simp⟩ (by simp)
        · refine condK_f (by simp [ltI]) ?_
          have F7 := an ew F4
          refine goR F7 ?_
          have hd4 : xs.drop m2 = zs := by simpa using hd3
          exact hL (r, k + 1, m2) _ _ (Gh.refl _) ⟨hd2, by rw [hd4]; exact hzs, hm2, pv F7, pv F7, pv F7, pv F7, pv F7, pv F7, pg, by simp [kacc]⟩ (by simp)
      · refine goR F1 ?_
        exact hQ _ _ (seqPost_end (.inr rfl) (by simp; rfl) (by simp; first | exact ⟨rfl, rfl⟩ | exact ⟨rfl, rfl, rfl⟩ | rfl) (by simp))
theorem seq_stmtsA {l : List Stmt} {n : Int} {xs : List (Int × Stmt)} (h : it_stmts l n = some xs) : SeqAt Tryd.prog 124 [.cell (.p (.bx [.sl l.length (encL l)])), .cell (.p (.bx [.c (.int .i64 n)]))] (xs.map stEv) :=
  seq_stmts _ (Nat.lt_succ_self _) h
end Go.Dc
end
section
set_option linter.all false
namespace Go.Dc
open Go Go.Hw Go.Proofs
set_option maxRecDepth 100000
def ast_Locals_L1 : List (Int × Stmt) → (List ByteArray) → Option (List ByteArray)
  | [], l35 => some (l35)
  | y22 :: q56, l35 => Option.bind (ast_assigns y22.2.Kind) (fun y57 => cond y57 (Option.bind (slices_Contains_string l35 y22.2.Name) (fun y60 => cond (!y60) (Option.bind (some ([y22.2.Name])) (fun l63 => guardO (limB 16 (l35.length + l63.length)) (Option.bind (some (l35 ++ l63)) (fun l66 => ast_Locals_L1 q56 l66)))) (ast_Locals_L1 q56 l35))) (ast_Locals_L1 q56 l35))

def ast_Locals (a0 : Proc) : Option (List ByteArray) :=
  Option.bind (α := (List ByteArray)) (cond (!(eqS a0.Param (⟨#[]⟩ : ByteArray))) (Option.bind (some ([a0.Param])) (fun l13 => guardO (limB 16 l13.length) (Option.bind (some (l13)) (fun l16 => some (l16))))) (some ([]))) (fun l7 => Option.bind (ast_stmts a0.Body 1) (fun y18 => Option.bind (it_stmts y18.1 y18.2) (fun xs20 => Option.bind (ast_Locals_L1 xs20 l7) (fun l48 => some l48))))

set_option maxHeartbeats 2000000 in
theorem at_ast_Locals {a0 : Proc} {r : (List ByteArray)} (hs : ast_Locals a0 = some r) : At Tryd.prog 36 [.agg (eA a0)] (.cell (sC r)) := by
  refine at_bound (by kernel_rfl) fun hb => ?_
  have hb1 : LenOk (.sl a0.Body.length (encL a0.Body)) := lkc hb
  refine at_code mixed Tryd.func36 (by kernel_rfl) rfl (by kernel_rfl) rfl fun Q hQ => ?_
  rw [ast_Locals] at hs
  refine goR2 f0 ?_
  revert hs; refine bK fun o9 e8 hs => ?_
  refine awp_cutK (fun (v : (List ByteArray)) (σ : St) => some (v) = some o9 ∧ σ.env 1 = .cell (.ref (.o 1 0 0) 0) ∧ σ.env 3 = .cell (.ref (.o 2 0 0) 0) ∧ σ.hp (.o 1 0 0) = some (.cells (eA a0)) ∧ σ.hp (.l 1) = some (.pure (encL v)) ∧ σ.hp (.o 2 0 0) = some (.cells [.sl (.l 1) 0 1 v.length]) ∧ 3 ≤ σ.gen) (by rfl) (fun Q hK10 hX11 => ?_) (fun l7 σ1 hp => ?_)
  · refine goR f0 ?_
    revert e8; refine cS f0 ?_ ?_ <;> intro h12 e8
    · revert e8; refine lK fun l13 hx14 e8 => ?_
      have hx14n : l13.length = 1 := by rw [hx14]; rfl
      obtain ⟨g15, e8⟩ := guardO_some e8
      have g15 := limB_t g15
      obtain ⟨g15a, g15b⟩ := g15
      revert e8; refine lK fun l16 hx17 e8 => ?_
      have hx17n : l16.length = l13.length := by rw [hx17]
      have hx17e : encL l16 = encL l13 := by rw [hx17]
      have F1 := an hx14 (an hx17n hx17e)
      refine goR F1 ?_
      exact hK10 l16 _ _ (Gh.ren _ (.o 4 4 0) (.l 1) (by simp) rfl rfl) ⟨e8, pv F1, pv F1, pv F1, pv F1, pv F1, pg⟩
    · refine goR f0 ?_
      exact hK10 [] _ _ (Gh.voidB _ (.l 1) (.o 2 0 0) 0 1 rfl (by simp; rfl) (by first | rfl | simp) (by simp)) ⟨e8, pv f0, pv f0, pv f0, pv f0, pv f0, pg⟩
  · obtain ⟨e8, h2_1, h2_3, g2_0, g2_1, g2_2, n2_g⟩ := hp
    obtain rfl := sj e8
    try dsimp only at hs
    have n2_0 : ¬ (σ1.gen = 0) := by omega
    have n2_1 : ¬ (σ1.gen = 1) := by omega
    have F2 := an h2_1 (an h2_3 (an g2_0 (an g2_1 (an g2_2 (an n2_0 n2_1)))))
    refine goR F2 ?_
    revert hs; refine bK fun y18 hx19 hs => ?_
    refine cP F2 (at_ast_stmts hx19) ?_
    refine goR F2 ?_
    revert hs; refine bK fun xs20 hx21 hs => ?_
    revert hs; refine bK fun o50 e49 hs => ?_
    refine awp_range (gf := 124) (cs := [.bx [.sl y18.1.length (encL y18.1)], .bx [.c (.int .i64 y18.2)]]) (xs20.map (fun (y : Int × Stmt) => ([.cell (.c (.int .i64 y.1)), .agg [.c (.int .i64 y.2.Kind), .c (.string y.2.Name), .c (.string y.2.Obj), .c (.string y.2.Other), .c (.int .i64 y.2.Fn), .c (.int .i64 y.2.Order), .sl y.2.Exprs.length (encL y.2.Exprs), .sl y.2.Body.length (encL y.2.Body), .sl y.2.Else.length (encL y.2.Else)]] : List EV))) (fun (k51 : Nat) (hp52 : Go.Hw.Id → Option Blk) (gen53 : Nat) => ∃ v : (List ByteArray), ast_Locals_L1 (xs20.drop k51) v = some o50 ∧ hp52 (.l 3) = some (.pure (encL v)) ∧ hp52 (.o 2 0 0) = some (.cells [.sl (.l 3) 0 1 v.length]) ∧ (σ1.gen + 1) ≤ gen53) _ (Gh.ren _ (.l 1) (.l 3) (by simp) rfl rfl) (pv F2) (seq_stmtsA hx21) (fun x hx => by obtain ⟨y, _, rfl⟩ := List.mem_map.1 hx; rfl) ⟨l7, e49, pv F2, pv F2, pg⟩ (fun k51 x hp52 gen53 hx hI => ?_) (fun hp52 gen53 hI => ?_)
    · obtain ⟨l35, e49, g3_0, g3_1, n3_g⟩ := hI
      try dsimp only at e49 g3_0 g3_1 n3_g
      obtain ⟨y22, hy54, rfl⟩ := map_get hx
      rw [drop_at hy54, ast_Locals_L1] at e49; try dsimp only at e49
      have n3_0 : ¬ (gen53 = 0) := by omega
      have n3_1 : ¬ (gen53 = 1) := by omega
      have F3 := an h2_1 (an h2_3 (an n2_0 (an n2_1 (an g3_0 (an g3_1 (an n3_0 n3_1))))))
      refine goR F3 ?_
      revert e49; refine bK fun y57 hx58 e49 => ?_
      refine cP F3 (at_ast_assigns hx58) ?_
      refine goG F3 F3 ?_
      refine gsel_split (fun h59 => ?_) (fun h59 => ?_)
      · replace e49 := condT h59 e49
        have F4 := an F3 h59
        refine goG F4 F4 ?_
        revert e49; refine bK fun y60 hx61 e49 => ?_
        refine cA F4 (at_slices_Contains_string hx61) ?_
        refine goG F4 F4 ?_
        revert e49; refine cS F4 ?_ ?_ <;> intro h62 e49
        · revert e49; refine lK fun l63 hx64 e49 => ?_
          have hx64n : l63.length = 1 := by rw [hx64]; rfl
          obtain ⟨g65, e49⟩ := guardO_some e49
          have g65 := limB_t g65
          obtain ⟨g65a, g65b⟩ := g65
          revert e49; refine lK fun l66 hx67 e49 => ?_
          have hx67n : l66.length = (l35.length + l63.length) := by rw [hx67]; simp
          have hx67e : encL l66 = encL l35 ++ encL l63 := by rw [hx67]; simp
          have F5 := an F4 (an hx64 (an hx67n hx67e))
          refine goG F5 F5 ?_
          refine rPost_gh (Gh.ren _ (.o (gen53 + 3) 4 0) (.l 3) (by simp) rfl rfl) ⟨l66, e49, pv F5, pv F5, pg⟩
        · refine goG F4 F4 ?_
          refine rPost_gh (Gh.refl _) ⟨l35, e49, pv F4, pv F4, pg⟩
      · replace e49 := condF h59 e49
        have F6 := an F3 h59
        refine goG F6 F6 ?_
        refine rPost_gh (Gh.refl _) ⟨l35, e49, pv F6, pv F6, pg⟩
    · obtain ⟨l35, e49, g3_0, g3_1, n3_g⟩ := hI
      try dsimp only at e49 g3_0 g3_1 n3_g
      rw [show xs20.drop (xs20.map (fun (y : Int × Stmt) => ([.cell (.c (.int .i64 y.1)), .agg [.c (.int .i64 y.2.Kind), .c (.string y.2.Name), .c (.string y.2.Obj), .c (.string y.2.Other), .c (.int .i64 y.2.Fn), .c (.int .i64 y.2.Order), .sl y.2.Exprs.length (encL y.2.Exprs), .sl y.2.Body.length (encL y.2.Body), .sl y.2.Else.length (encL y.2.Else)]] : List EV))).length = [] by simp, ast_Locals_L1] at e49; try dsimp only at e49
      have n3_0 : ¬ (gen53 = 0) := by omega
      have n3_1 : ¬ (gen53 = 1) := by omega
      obtain rfl := sj e49
      try dsimp only at hs
      have F7 := an h2_1 (an h2_3 (an n2_0 (an n2_1 (an g3_0 (an g3_1 (an n3_0 n3_1))))))
      refine goR F7 ?_
      obtain rfl := sj hs
      exact hQ _ _ (rg F7 (Gh.frz _ (.l 3)))
end Go.Dc
end
section
set_option linter.all false
namespace Go.Dc
open Go Go.Hw Go.Proofs
set_option maxRecDepth 100000
def r16_names_L1 (rF81z : (List ByteArray) → (List Stmt) → Option (List ByteArray)) : List Stmt → (List ByteArray) → Nat → Option (List ByteArray)
  | [], l137, k138 => some (l137)
  | x179 :: q175, l137, k138 => Option.bind (r16_known x179.Kind) (fun y182 => guardO (orB (!y182) ((r16_uses x179.Kind 78).isSome)) (cond (andB y182 ((r16_uses x179.Kind 78).getD default)) (Option.bind (r16_in l137 x179.Name) (fun y186 => cond (!y186) (Option.bind (some ([x179.Name])) (fun l189 => guardO (limB 16 (l137.length + l189.length)) (Option.bind (some (l137 ++ l189)) (fun l192 => Option.bind (rF81z l192 x179.Body) (fun y194 => Option.bind (rF81z y194 x179.Else) (fun y196 => r16_names_L1 rF81z q175 y196 (k138 + 1))))))) (Option.bind (rF81z l137 x179.Body) (fun y198 => Option.bind (rF81z y198 x179.Else) (fun y200 => r16_names_L1 rF81z q175 y200 (k138 + 1)))))) (Option.bind (rF81z l137 x179.Body) (fun y202 => Option.bind (rF81z y202 x179.Else) (fun y204 => r16_names_L1 rF81z q175 y204 (k138 + 1))))))

def r16_names_B (rF81z : (List ByteArray) → (List Stmt) → Option (List ByteArray)) (a0 : List ByteArray) (a1 : List Stmt) : Option (List ByteArray) :=
  Option.bind (α := (List ByteArray)) (Option.bind (r16_names_L1 rF81z a1 a0 0) (fun l168 => some (l168))) (fun l101 => some l101)

def r16_names : Nat → (List ByteArray) → (List Stmt) → Option (List ByteArray)
  | 0 => fun _ _ => none
  | fuelN + 1 => fun a0 a1 => r16_names_B (r16_names fuelN) a0 a1

end Go.Dc
end
section
set_option linter.all false
namespace Go.Dc
open Go Go.Hw Go.Proofs
set_option maxRecDepth 100000

def r16_Locals (fuelN : Nat) (a0 : Proc) : Option (List ByteArray) :=
  Option.bind (some (([] : List ByteArray))) (fun l1 => cond (!(eqS a0.Param (⟨#[]⟩ : ByteArray))) (Option.bind (some ([a0.Param])) (fun l4 => guardO (limB 16 (l1.length + l4.length)) (Option.bind (some (l1 ++ l4)) (fun l7 => Option.bind (r16_names fuelN l7 a0.Body) (fun y9 => some y9))))) (Option.bind (r16_names fuelN l1 a0.Body) (fun y11 => some y11)))

end Go.Dc
end
section
set_option linter.all false
namespace Go.Dc
open Go Go.Hw Go.Proofs
set_option maxRecDepth 100000
def ast_Count_L1 : List (Int × Stmt) → Int → Option Int
  | [], i9 => some (i9)
  | y5 :: q19, i9 => ast_Count_L1 q19 (IntKind.i64.wrap (i9 + 1))

def ast_Count (a0 : List Stmt) : Option Int :=
  Option.bind (ast_stmts a0 1) (fun y1 => Option.bind (it_stmts y1.1 y1.2) (fun xs3 => Option.bind (ast_Count_L1 xs3 0) (fun i11 => some i11)))

set_option maxHeartbeats 2000000 in
theorem at_ast_Count {a0 : List Stmt} {r : Int} (hs : ast_Count a0 = some r) : At Tryd.prog 38 [.cell (sC a0)] (iV .i64 r) := by
  refine at_bound (by kernel_rfl) fun hb => ?_
  have hb1 : LenOk (.sl a0.length (encL a0)) := lkc hb
  refine at_code mixed Tryd.func38 (by kernel_rfl) rfl (by kernel_rfl) rfl fun Q hQ => ?_
  rw [ast_Count] at hs
  refine goR f0 ?_
  revert hs; refine bK fun y1 hx2 hs => ?_
  refine cP f0 (at_ast_stmts hx2) ?_
  refine goR f0 ?_
  revert hs; refine bK fun xs3 hx4 hs => ?_
  revert hs; refine bK fun o13 e12 hs => ?_
  refine awp_range (gf := 124) (cs := [.bx [.sl y1.1.length (encL y1.1)], .bx [.c (.int .i64 y1.2)]]) (xs3.map (fun (y : Int × Stmt) => ([.cell (.c (.int .i64 y.1)), .agg [.c (.int .i64 y.2.Kind), .c (.string y.2.Name), .c (.string y.2.Obj), .c (.string y.2.Other), .c (.int .i64 y.2.Fn), .c (.int .i64 y.2.Order), .sl y.2.Exprs.length (encL y.2.Exprs), .sl y.2.Body.length (encL y.2.Body), .sl y.2.Else.length (encL y.2.Else)]] : List EV))) (fun (k14 : Nat) (hp15 : Go.Hw.Id → Option Blk) (gen16 : Nat) => ∃ v : Int, ast_Count_L1 (xs3.drop k14) v = some o13 ∧ hp15 (.o 2 0 0) = some (.cells [nC v]) ∧ 3 ≤ gen16) _ (Gh.refl _) (pv f0) (seq_stmtsA hx4) (fun x hx => by obtain ⟨y, _, rfl⟩ := List.mem_map.1 hx; rfl) ⟨0, e12, pv f0, pg⟩ (fun k14 x hp15 gen16 hx hI => ?_) (fun hp15 gen16 hI => ?_)
  · obtain ⟨i9, e12, g1_0, n1_g⟩ := hI
    try dsimp only at e12 g1_0 n1_g
    obtain ⟨y5, hy17, rfl⟩ := map_get hx
    rw [drop_at hy17, ast_Count_L1] at e12; try dsimp only at e12
    have n1_0 : ¬ (gen16 = 0) := by omega
    have n1_1 : ¬ (gen16 = 1) := by omega
    have F1 := an g1_0 (an n1_0 n1_1)
    refine goR F1 ?_
    refine rPost_gh (Gh.refl _) ⟨IntKind.i64.wrap (i9 + 1), e12, pv F1, pg⟩
  · obtain ⟨i9, e12, g1_0, n1_g⟩ := hI
    try dsimp only at e12 g1_0 n1_g
    rw [show xs3.drop (xs3.map (fun (y : Int × Stmt) => ([.cell (.c (.int .i64 y.1)), .agg [.c (.int .i64 y.2.Kind), .c (.string y.2.Name), .c (.string y.2.Obj), .c (.string y.2.Other), .c (.int .i64 y.2.Fn), .c (.int .i64 y.2.Order), .sl y.2.Exprs.length (encL y.2.Exprs), .sl y.2.Body.length (encL y.2.Body), .sl y.2.Else.length (encL y.2.Else)]] : List EV))).length = [] by simp, ast_Count_L1] at e12; try dsimp only at e12
    have n1_0 : ¬ (gen16 = 0) := by omega
    have n1_1 : ¬ (gen16 = 1) := by omega
    obtain rfl := sj e12
    try dsimp only at hs
    have F2 := an g1_0 (an n1_0 n1_1)
    refine goR F2 ?_
    obtain rfl := sj hs
    exact hQ _ _ (rg F2 (Gh.refl _))
end Go.Dc
end
section
set_option linter.all false
namespace Go.Dc
open Go Go.Hw Go.Proofs
set_option maxRecDepth 100000
def r16_Count_L1 (rF39z : (List Stmt) → Option Int) : List Stmt → Int → Nat → Option Int
  | [], i131, k132 => some (i131)
  | x162 :: q158, i131, k132 => Option.bind (rF39z x162.Body) (fun y171 => Option.bind (rF39z x162.Else) (fun y174 => r16_Count_L1 rF39z q158 (IntKind.i64.wrap (IntKind.i64.wrap (IntKind.i64.wrap (i131 + 1) + y171) + y174)) (k132 + 1)))

def r16_Count_B (rF39z : (List Stmt) → Option Int) (a0 : List Stmt) : Option Int :=
  Option.bind (α := Int) (Option.bind (r16_Count_L1 rF39z a0 0 0) (fun i151 => some (i151))) (fun i86 => some i86)

def r16_Count : Nat → (List Stmt) → Option Int
  | 0 => fun _ => none
  | fuelN + 1 => fun a0 => r16_Count_B (r16_Count fuelN) a0

end Go.Dc
end
section
set_option linter.all false
namespace Go.Dc
open Go Go.Hw Go.Proofs
set_option maxRecDepth 100000
def r16_size_L1 (fuelN : Nat) (a0 : List Stmt) (a1 : Int) (rF65z : (List Stmt) → Int → Option Int) : Nat → Int → Int → Option Int
  | 0, _, _ => none
  | q151 + 1, i118, i119 => cond (andB (ltI i119 ((a0.length : Nat) : Int)) (ltI 0 a1)) (Option.bind (getI a0 i119) (fun x167 => Option.bind (r16_nodes fuelN x167.Exprs 40) (fun y170 => Option.bind (rF65z x167.Body (IntKind.i64.wrap (a1 - 1))) (fun y173 => Option.bind (rF65z x167.Else (IntKind.i64.wrap (a1 - 1))) (fun y176 => r16_size_L1 fuelN a0 a1 rF65z q151 (IntKind.i64.wrap (IntKind.i64.wrap (IntKind.i64.wrap (i118 + y170) + y173) + y176)) (IntKind.i64.wrap (i119 + 1))))))) (some (i118))

def r16_size_B (rF65z : (List Stmt) → Int → Option Int) (fuelN : Nat) (a0 : List Stmt) (a1 : Int) : Option Int :=
  Option.bind (α := Int) (Option.bind (r16_size_L1 fuelN a0 a1 rF65z fuelN ((a0.length : Nat) : Int) 0) (fun i144 => some (i144))) (fun i87 => cond (andB (eqI a1 0) (ltI 0 i87)) (some 1000000) (some i87))

def r16_size : Nat → (List Stmt) → Int → Option Int
  | 0 => fun _ _ => none
  | fuelN + 1 => fun a0 a1 => r16_size_B (r16_size fuelN) fuelN a0 a1

set_option maxHeartbeats 2000000 in
theorem at_r16_size_B {rF65z : (List Stmt) → Int → Option Int} (ihrF65z : ∀ (a0 : List Stmt) (a1 : Int) (r : Int), rF65z a0 a1 = some r → At Tryd.prog 65 [.cell (sC a0), iV .i64 a1] (iV .i64 r)) {fuelN : Nat} {a0 : List Stmt} {a1 : Int} {r : Int} (hs : r16_size_B rF65z fuelN a0 a1 = some r) : At Tryd.prog 65 [.cell (sC a0), iV .i64 a1] (iV .i64 r) := by
  refine at_bound (by kernel_rfl) fun hb => ?_
  have hb1 : LenOk (.sl a0.length (encL a0)) := lkc hb
  refine at_code mixed Tryd.func65 (by kernel_rfl) rfl (by kernel_rfl) rfl fun Q hQ => ?_
  rw [r16_size_B] at hs
  refine goR2 f0 ?_
  revert hs; refine bK fun o89 e88 hs => ?_
  refine awp_cutK (fun (v : Int) (σ : St) => some (v) = some o89 ∧ σ.env 1 = iV .i64 a1 ∧ σ.env 5 = iV .i64 v ∧ 3 ≤ σ.gen) (by rfl) (fun Q hK90 hX91 => ?_) (fun i87 σ3 hp => ?_)
  · refine goR f0 ?_
    revert e88; refine bK fun o146 e145 e88 => ?_
    refine awp_loopW (fun (v : Nat × Int × Int) (σ : St) => r16_size_L1 fuelN a0 a1 rF65z v.1 v.2.1 v.2.2 = some o146 ∧ σ.env 0 = .cell (sC a0) ∧ σ.env 1 = iV .i64 a1 ∧ σ.env 5 = iV .i64 v.2.1 ∧ σ.env 6 = iV .i64 v.2.2 ∧ 3 ≤ σ.gen) (fun v => v.1) _ (Gh.refl _) (fuelN, ((a0.length : Nat) : Int), 0) ⟨e145, pv f0, pv f0, pv f0, pv f0, pg⟩ fun v σ6 hp L147 hL148 => ?_
    obtain ⟨q150, i118, i119⟩ := v
    dsimp only at hp hL148
    obtain ⟨e145, h5_0, h5_1, h5_5, h5_6, n5_g⟩ := hp
    rcases q150 with _ | q151
    · rw [r16_size_L1] at e145; cases e145
    · rw [r16_size_L1] at e145; try dsimp only at e145
      have F1 := an h5_0 (an h5_1 (an h5_5 h5_6))
      refine goG F1 F1 ?_
      revert e145; refine cS F1 ?_ ?_ <;> intro h155 e145
      · revert e145; refine bK fun x167 hx168 e145 => ?_
        obtain ⟨hx168a, hx168b, hx168c, hx168d⟩ := getI_some hx168
        have f169 : partCV Tryd.prog 48 (encL a0) (((i119).toNat) * 9 + 6) = some (.cell (sC x167.Exprs)) := partCV_enc hx168d (f := 6) (by simp)
        have F2 := an F1 f169
        have F3 := an F2 (an hx168a hx168b)
        refine goE F2 F3 ?_
        revert e145; refine bK fun y170 hx171 e145 => ?_
        refine cP F2 (at_r16_nodes hx171) ?_
        have f172 : partCV Tryd.prog 55 (encL a0) (((i119).toNat) * 9 + 7) = some (.cell (sC x167.Body)) := partCV_enc hx168d (f := 7) (by simp)
        have F4 := an F2 f172
        have F5 := an F4 (an hx168a hx168b)
        refine goE F4 F5 ?_
        revert e145; refine bK fun y173 hx174 e145 => ?_
        refine cP F4 (ihrF65z _ _ _ hx174) ?_
        have f175 : partCV Tryd.prog 55 (encL a0) (((i119).toNat) * 9 + 8) = some (.cell (sC x167.Else)) := partCV_enc hx168d (f := 8) (by simp)
        have F6 := an F4 f175
        have F7 := an F6 (an hx168a hx168b)
        refine goE F6 F7 ?_
        revert e145; refine bK fun y176 hx177 e145 => ?_
        refine cP F6 (ihrF65z _ _ _ hx177) ?_
        refine goE F6 F7 ?_
        exact hL148 (q151, IntKind.i64.wrap (IntKind.i64.wrap (IntKind.i64.wrap (i118 + y170) + y173) + y176), IntKind.i64.wrap (i119 + 1)) _ _ (Gh.refl _) ⟨e145, pv F6, pv F6, pv F6, pv F6, pg⟩ (by omega)
      · refine goG F1 F1 ?_
        obtain rfl := sj e145
        try dsimp only at e88
        exact hK90 i118 _ _ (Gh.refl _) ⟨e88, pv F1, pv F1, pg⟩
  · obtain ⟨e88, h4_1, h4_5, n4_g⟩ := hp
    obtain rfl := sj e88
    try dsimp only at hs
    have F8 := an h4_1 h4_5
    refine goG F8 F8 ?_
    revert hs; refine cS F8 ?_ ?_ <;> intro h178 hs
    · refine goG F8 F8 ?_
      obtain rfl := sj hs
      exact hQ _ _ (rg F8 (Gh.refl _))
    · refine goG F8 F8 ?_
      obtain rfl := sj hs
      exact hQ _ _ (rg F8 (Gh.refl _))
theorem at_r16_size : ∀ {fuelN : Nat} {a0 : List Stmt} {a1 : Int} {r : Int} (hs : r16_size fuelN a0 a1 = some r), At Tryd.prog 65 [.cell (sC a0), iV .i64 a1] (iV .i64 r)
  | 0, _, _, _, hs => by rw [r16_size] at hs; cases hs
  | n + 1, _, _, _, hs => by
    rw [r16_size] at hs
    exact at_r16_size_B (fun _ _ _ h => at_r16_size h) hs
end Go.Dc
end
section
set_option linter.all false
namespace Go.Dc
open Go Go.Hw Go.Proofs
set_option maxRecDepth 100000
def r16_Few_L1 (fuelN : Nat) (a0 : UnitT) : Nat → Int → Int → Option Int
  | 0, _, _ => none
  | q66 + 1, i50, i51 => cond (andB (ltI i51 ((a0.Procs.length : Nat) : Int)) (ltI i51 100)) (Option.bind (getI a0.Procs i51) (fun x71 => Option.bind (r16_size fuelN x71.Body 40) (fun y74 => r16_Few_L1 fuelN a0 q66 (IntKind.i64.wrap (i50 + y74)) (IntKind.i64.wrap (i51 + 1))))) (some (i50))

def r16_Few (fuelN : Nat) (a0 : UnitT) : Option Bool :=
  Option.bind (α := Int) (Option.bind (r16_Few_L1 fuelN a0 fuelN (IntKind.i64.wrap (IntKind.i64.wrap (IntKind.i64.wrap (IntKind.i64.wrap (((a0.Vars.length : Nat) : Int) + ((a0.Mutexes.length : Nat) : Int)) + ((a0.Conds.length : Nat) : Int)) + ((a0.Threads.length : Nat) : Int)) + ((a0.Procs.length : Nat) : Int))) 0) (fun i59 => some (i59))) (fun i36 => some (andB (!(ltI 2000 i36)) (!(ltI 100 ((a0.Procs.length : Nat) : Int)))))

set_option maxHeartbeats 2000000 in
theorem at_r16_Few {fuelN : Nat} {a0 : UnitT} {r : Bool} (hs : r16_Few fuelN a0 = some r) : At Tryd.prog 26 [.agg (eA a0)] (bV r) := by
  refine at_bound (by kernel_rfl) fun hb => ?_
  have hb1 : LenOk (.sl a0.Vars.length (encL a0.Vars)) := lkc hb
  have hb2 : LenOk (.sl a0.Mutexes.length (encL a0.Mutexes)) := lkc hb
  have hb3 : LenOk (.sl a0.Conds.length (encL a0.Conds)) := lkc hb
  have hb4 : LenOk (.sl a0.Procs.length (encL a0.Procs)) := lkc hb
  have hb5 : LenOk (.sl a0.Threads.length (encL a0.Threads)) := lkc hb
  refine at_code mixed Tryd.func26 (by kernel_rfl) rfl (by kernel_rfl) rfl fun Q hQ => ?_
  rw [r16_Few] at hs
  refine goR2 f0 ?_
  revert hs; refine bK fun o38 e37 hs => ?_
  refine awp_cutK (fun (v : Int) (σ : St) => some (v) = some o38 ∧ σ.env 1 = .cell (.ref (.o 1 0 0) 0) ∧ σ.env 3 = iV .i64 v ∧ σ.hp (.o 1 0 0) = some (.cells (eA a0)) ∧ 3 ≤ σ.gen) (by rfl) (fun Q hK39 hX40 => ?_) (fun i36 σ3 hp => ?_)
  · refine goR f0 ?_
    revert e37; refine bK fun o61 e60 e37 => ?_
    refine awp_loopW (fun (v : Nat × Int × Int) (σ : St) => r16_Few_L1 fuelN a0 v.1 v.2.1 v.2.2 = some o61 ∧ σ.env 1 = .cell (.ref (.o 1 0 0) 0) ∧ σ.env 3 = iV .i64 v.2.1 ∧ σ.env 4 = iV .i64 v.2.2 ∧ σ.hp (.o 1 0 0) = some (.cells (eA a0)) ∧ 3 ≤ σ.gen) (fun v => v.1) _ (Gh.refl _) (fuelN, IntKind.i64.wrap (IntKind.i64.wrap (IntKind.i64.wrap (IntKind.i64.wrap (((a0.Vars.length : Nat) : Int) + ((a0.Mutexes.length : Nat) : Int)) + ((a0.Conds.length : Nat) : Int)) + ((a0.Threads.length : Nat) : Int)) + ((a0.Procs.length : Nat) : Int)), 0) ⟨e60, pv f0, pv f0, pv f0, pv f0, pg⟩ fun v σ6 hp L62 hL63 => ?_
    obtain ⟨q65, i50, i51⟩ := v
    dsimp only at hp hL63
    obtain ⟨e60, h5_1, h5_3, h5_4, g5_0, n5_g⟩ := hp
    have n5_0 : ¬ (σ6.gen = 0) := by omega
    rcases q65 with _ | q66
    · rw [r16_Few_L1] at e60; cases e60
    · rw [r16_Few_L1] at e60; try dsimp only at e60
      have F1 := an h5_1 (an h5_3 (an h5_4 (an g5_0 n5_0)))
      refine goG F1 F1 ?_
      revert e60; refine cS F1 ?_ ?_ <;> intro h70 e60
      · revert e60; refine bK fun x71 hx72 e60 => ?_
        obtain ⟨hx72a, hx72b, hx72c, hx72d⟩ := getI_some hx72
        have f73 : partCV Tryd.prog 55 (encL a0.Procs) (((i51).toNat) * 3 + 2) = some (.cell (sC x71.Body)) := partCV_enc hx72d (f := 2) (by simp)
        have F2 := an F1 f73
        have F3 := an F2 (an hx72a hx72b)
        refine goG F2 F3 ?_
        revert e60; refine bK fun y74 hx75 e60 => ?_
        refine cP F2 (at_r16_size hx75) ?_
        refine goG F2 F3 ?_
        exact hL63 (q66, IntKind.i64.wrap (i50 + y74), IntKind.i64.wrap (i51 + 1)) _ _ (Gh.refl _) ⟨e60, pv F2, pv F2, pv F2, pv F2, pg⟩ (by omega)
      · refine goG F1 F1 ?_
        obtain rfl := sj e60
        try dsimp only at e37
        exact hK39 i50 _ _ (Gh.refl _) ⟨e37, pv F1, pv F1, pv F1, pg⟩
  · obtain ⟨e37, h4_1, h4_3, g4_0, n4_g⟩ := hp
    obtain rfl := sj e37
    try dsimp only at hs
    have n4_0 : ¬ (σ3.gen = 0) := by omega
    have F4 := an h4_1 (an h4_3 (an g4_0 n4_0))
    refine goG F4 F4 ?_
    obtain rfl := sj hs
    exact hQ _ _ (rg F4 (Gh.refl _))
end Go.Dc
end
section
set_option linter.all false
namespace Go.Dc.Pl
open Go Go.Hw Go.Dc
mutual
def nS : Stmt → Nat
  | ⟨_, _, _, _, _, _, x, b, e⟩ => nL x + nSL b + nSL e + 1
def nSL : List Stmt → Nat
  | [] => 0
  | x :: r => nS x + nSL r
end
mutual
def cS : Stmt → Nat
  | ⟨_, _, _, _, _, _, _, b, e⟩ => cSL b + cSL e + 1
def cSL : List Stmt → Nat
  | [] => 0
  | x :: r => cS x + cSL r
end
mutual
/-- The statements in the order of their numbers, with their levels. -/
def flS (n : Int) : Stmt → List (Int × Stmt)
  | ⟨a, b, c, d, e, f, g, h, i⟩ => (n, ⟨a, b, c, d, e, f, g, h, i⟩) :: (flL (n + 1) h ++ flL (n + 1) i)
def flL (n : Int) : List Stmt → List (Int × Stmt)
  | [] => []
  | x :: r => flS n x ++ flL n r
end
theorem nS_eq (s : Stmt) : nS s = nL s.Exprs + nSL s.Body + nSL s.Else + 1 := by cases s; rw [nS]
@[simp] theorem nSL_nil : nSL [] = 0 := by rw [nSL]
@[simp] theorem nSL_cons (x : Stmt) (r : List Stmt) : nSL (x :: r) = nS x + nSL r := by rw [nSL]
@[simp] theorem cSL_nil : cSL [] = 0 := by rw [cSL]
@[simp] theorem cSL_cons (x : Stmt) (r : List Stmt) : cSL (x :: r) = cS x + cSL r := by rw [cSL]
@[simp] theorem flL_nil (n : Int) : flL n [] = [] := by rw [flL]
@[simp] theorem flL_cons (n : Int) (x : Stmt) (r : List Stmt) : flL n (x :: r) = flS n x ++ flL n r := by rw [flL]
theorem nS_pos (s : Stmt) : 1 ≤ nS s := by rw [nS_eq]; omega
theorem nSL_len : ∀ l : List Stmt, l.length ≤ nSL l
  | [] => by simp
  | x :: r => by have := nSL_len r; have := nS_pos x; simp; omega
theorem nSL_mem : ∀ {l : List Stmt} {x : Stmt}, x ∈ l → nS x ≤ nSL l
  | y :: r, x, h => by
    rcases List.mem_cons.1 h with rfl | h
    · simp
    · have := nSL_mem h; simp; omega
mutual
theorem fl_lenS : ∀ (s : Stmt) (n : Int), (flS n s).length = cS s
  | ⟨a, b, c, d, e, f, g, h, i⟩, n => by rw [flS, cS, List.length_cons, List.length_append, fl_lenL h, fl_lenL i]
theorem fl_lenL : ∀ (l : List Stmt) (n : Int), (flL n l).length = cSL l
  | [], n => by simp
  | x :: r, n => by rw [flL_cons, cSL_cons, List.length_append, fl_lenS x, fl_lenL r]
end
mutual
theorem c_leS : ∀ s : Stmt, cS s ≤ nS s
  | ⟨a, b, c, d, e, f, g, h, i⟩ => by rw [cS, nS]; have := c_leL h; have := c_leL i; omega
theorem c_leL : ∀ l : List Stmt, cSL l ≤ nSL l
  | [] => by simp
  | x :: r => by have := c_leS x; have := c_leL r; simp; omega
end
mutual
theorem fl_memS : ∀ (s : Stmt) (n : Int) (y : Int × Stmt), y ∈ flS n s → nS y.2 ≤ nS s
  | ⟨a, b, c, d, e, f, g, h, i⟩, n, y, hy => by
    rw [flS] at hy
    rcases List.mem_cons.1 hy with rfl | hy
    · exact Nat.le_refl _
    · rw [nS]
      rcases List.mem_append.1 hy with hy | hy
      · have := fl_memL h _ y hy; omega
      · have := fl_memL i _ y hy; omega
theorem fl_memL : ∀ (l : List Stmt) (n : Int) (y : Int × Stmt), y ∈ flL n l → nS y.2 ≤ nSL l
  | [], n, y, hy => by simp at hy
  | x :: r, n, y, hy => by
    rw [flL_cons] at hy
    rw [nSL_cons]
    rcases List.mem_append.1 hy with hy | hy
    · have := fl_memS x _ y hy; omega
    · have := fl_memL r _ y hy; omega
end
mutual
theorem itS_eq' : ∀ (s : Stmt) (n : Int), 0 ≤ n → n + nS s ≤ 4194304 → itS s n = some (flS n s)
  | ⟨a, b, c, d, e, f, g, h, i⟩, n, h0, hn => by
    rw [nS] at hn
    have h1 := nSL_len h; have h2 := nSL_len i
    rw [itS, flS, wrap_s (by omega) (by omega), itL_eq' h (n + 1) (by omega) (by omega), itL_eq' i (n + 1) (by omega) (by omega),
      show lenB h.length = true by rw [lenB_d]; simp; omega, show lenB i.length = true by rw [lenB_d]; simp; omega]
    rfl
theorem itL_eq' : ∀ (l : List Stmt) (n : Int), 0 ≤ n → n + nSL l ≤ 4194304 → itL l n = some (flL n l)
  | [], n, _, _ => by rw [itL]; simp
  | x :: r, n, h0, hn => by
    rw [nSL_cons] at hn
    rw [itL, itS_eq' x n h0 (by omega), itL_eq' r n h0 (by omega), flL_cons]; rfl
end
/-! Local variables. -/
def addN (a : List ByteArray) (s : Stmt) : List ByteArray := if asg s.Kind = true ∧ isIn a s.Name = false then a ++ [s.Name] else a
def addL (a : List ByteArray) (xs : List (Int × Stmt)) : List ByteArray := xs.foldl (fun a y => addN a y.2) a
@[simp] theorem addL_nil (a : List ByteArray) : addL a [] = a := rfl
@[simp] theorem addL_cons (a : List ByteArray) (x : Int × Stmt) (r : List (Int × Stmt)) : addL a (x :: r) = addL (addN a x.2) r := rfl
def par (p : Proc) : List ByteArray := if eqS p.Param emp = true then [] else [p.Param]
def locP (p : Proc) : List ByteArray := addL (par p) (flL 1 p.Body)
/-! The count of nodes of a unit ends. -/
theorem size_some : ∀ (N : Nat) (l : List Stmt) (d : Int), nSL l + 2 < N → nSL l ≤ 1048576 → ∃ r, r16_size N l d = some r
  | 0, l, d, h, _ => absurd h (by omega)
  | N + 1, l, d, h, hb => by
    rw [show r16_size (N + 1) l d = r16_size_B (r16_size N) N l d from rfl, r16_size_B]
    have hlen := nSL_len l
    have key : ∀ (q i : Nat) (a : Int), i ≤ l.length → l.length < i + q → ∃ r, r16_size_L1 N l d (r16_size N) q a (i : Int) = some r := by
      intro q
      induction q with
      | zero => intro i a hi hq; exact absurd hq (by omega)
      | succ q ih =>
        intro i a hi hq
        rw [r16_size_L1]
        cases hc : andB (ltI (i : Int) ((l.length : Nat) : Int)) (ltI 0 d) with
        | false => exact ⟨_, rfl⟩
        | true =>
          have hi' : i < l.length := by simp [andB_d, ltI_d] at hc; omega
          rw [cond_true, getI_nat, List.getElem?_eq_getElem hi', Option.bind_some]
          have hm := nSL_mem (List.getElem_mem hi')
          have h1 := nS_eq l[i]
          obtain ⟨x, hx⟩ := nodes_some N l[i].Exprs 40 (by omega) (by omega)
          obtain ⟨y, hy⟩ := size_some N l[i].Body (IntKind.i64.wrap (d - 1)) (by omega) (by omega)
          obtain ⟨z, hz⟩ := size_some N l[i].Else (IntKind.i64.wrap (d - 1)) (by omega) (by omega)
          rw [hx, Option.bind_some, hy, Option.bind_some, hz, Option.bind_some, wrapS (n := i) (by omega)]
          exact ih (i + 1) _ hi' (by omega)
    obtain ⟨r, hr⟩ := key N 0 ((l.length : Nat) : Int) (by omega) (by omega)
    rw [show ((0 : Nat) : Int) = 0 from rfl] at hr
    rw [hr]
    simp only [Option.bind_some]
    cases andB (eqI d 0) (ltI 0 r)
    · exact ⟨r, rfl⟩
    · exact ⟨_, rfl⟩
/-- A unit of bounded size. -/
structure Sm (u : UnitT) : Prop where
  vars : u.Vars.length ≤ 1048576
  mutexes : u.Mutexes.length ≤ 1048576
  conds : u.Conds.length ≤ 1048576
  procs : u.Procs.length ≤ 1048576
  threads : u.Threads.length ≤ 1048576
  body : ∀ p ∈ u.Procs, nSL p.Body ≤ 1048576
theorem few_some {N : Nat} {u : UnitT} (h : Sm u) (hN : 1048580 ≤ N) : ∃ b, r16_Few N u = some b := by
  have key : ∀ (q i : Nat) (a : Int), i ≤ u.Procs.length → u.Procs.length < i + q → ∃ r, r16_Few_L1 N u q a (i : Int) = some r := by
    intro q
    induction q with
    | zero => intro i a hi hq; exact absurd hq (by omega)
    | succ q ih =>
      intro i a hi hq
      rw [r16_Few_L1]
      cases hc : andB (ltI (i : Int) ((u.Procs.length : Nat) : Int)) (ltI (i : Int) 100) with
      | false => exact ⟨_, rfl⟩
      | true =>
        have hi' : i < u.Procs.length := by simp [andB_d, ltI_d] at hc; omega
        have hm := h.body _ (List.getElem_mem hi')
        obtain ⟨x, hx⟩ := size_some N u.Procs[i].Body 40 (by omega) hm
        have hp := h.procs
        rw [cond_true, getI_nat, List.getElem?_eq_getElem hi', Option.bind_some, hx, Option.bind_some, wrapS (n := i) (by omega)]
        exact ih (i + 1) _ hi' (by omega)
  rw [r16_Few]
  obtain ⟨r, hr⟩ := key N 0 (IntKind.i64.wrap (IntKind.i64.wrap (IntKind.i64.wrap (IntKind.i64.wrap (((u.Vars.length : Nat) : Int) + ((u.Mutexes.length : Nat) : Int)) + ((u.Conds.length : Nat) : Int)) + ((u.Threads.length : Nat) : Int)) + ((u.Procs.length : Nat) : Int))) (by omega) (by have := h.procs; omega)
  rw [show ((0 : Nat) : Int) = 0 from rfl] at hr
  rw [hr]; exact ⟨_, rfl⟩
end Go.Dc.Pl
end
section
set_option linter.all false
namespace Go.Dc
open Go Go.Hw Go.Proofs
set_option maxRecDepth 100000
def ast_objects_L1 : List Var → Nat → (List ByteArray) → Option (List ByteArray)
  | [], k81, l82 => some (l82)
  | x104 :: q100, k81, l82 => Option.bind (some ([x104.Name])) (fun l107 => guardO (limB 16 (l82.length + l107.length)) (Option.bind (some (l82 ++ l107)) (fun l110 => ast_objects_L1 q100 (k81 + 1) l110)))

def ast_objects_L2 : List Proc → Nat → (List ByteArray) → Option (List ByteArray)
  | [], k192, l193 => some (l193)
  | x215 :: q211, k192, l193 => Option.bind (some ([x215.Name])) (fun l218 => guardO (limB 16 (l193.length + l218.length)) (Option.bind (some (l193 ++ l218)) (fun l221 => ast_objects_L2 q211 (k192 + 1) l221)))

def ast_objects (a0 : UnitT) : Option (Arr 5 (List ByteArray)) :=
  Option.bind (α := (List ByteArray)) (Option.bind (ast_objects_L1 a0.Vars 0 []) (fun l93 => some (l93))) (fun l54 => Option.bind (α := (List ByteArray)) (Option.bind (ast_objects_L2 a0.Procs 0 []) (fun l204 => some (l204))) (fun l165 => some (Arr.of 5 [[], l54, a0.Mutexes, a0.Conds, l165])))

set_option maxHeartbeats 2000000 in
theorem at_ast_objects {a0 : UnitT} {r : (Arr 5 (List ByteArray))} (hs : ast_objects a0 = some r) : At Tryd.prog 68 [.agg (eA a0)] (.agg [sC (r.f 0), sC (r.f 1), sC (r.f 2), sC (r.f 3), sC (r.f 4)]) := by
  refine at_bound (by kernel_rfl) fun hb => ?_
  have hb1 : LenOk (.sl a0.Vars.length (encL a0.Vars)) := lkc hb
  have hb2 : LenOk (.sl a0.Mutexes.length (encL a0.Mutexes)) := lkc hb
  have hb3 : LenOk (.sl a0.Conds.length (encL a0.Conds)) := lkc hb
  have hb4 : LenOk (.sl a0.Procs.length (encL a0.Procs)) := lkc hb
  have hb5 : LenOk (.sl a0.Threads.length (encL a0.Threads)) := lkc hb
  refine at_code mixed Tryd.func68 (by kernel_rfl) rfl (by kernel_rfl) rfl fun Q hQ => ?_
  rw [ast_objects] at hs
  refine goR2 f0 ?_
  revert hs; refine bK fun o56 e55 hs => ?_
  refine awp_cutK (fun (v : (List ByteArray)) (σ : St) => some (v) = some o56 ∧ σ.env 1 = .cell (.ref (.o 1 0 0) 0) ∧ σ.env 2 = .cell (.ref (.o 1 1 0) 0) ∧ σ.env 3 = .cell (.ref (.o 2 0 0) 0) ∧ σ.hp (.o 1 0 0) = some (.cells (eA a0)) ∧ σ.hp (.o 1 1 0) = some (.cells [.z, .z, .z, .z, .z]) ∧ σ.hp (.l 1) = some (.pure (encL v)) ∧ σ.hp (.o 2 0 0) = some (.cells [.z, .sl (.l 1) 0 1 v.length, .z, .z, .z]) ∧ 3 ≤ σ.gen) (by rfl) (fun Q hK57 hX58 => ?_) (fun l54 σ3 hp => ?_)
  · refine goR f0 ?_
    revert e55; refine bK fun o95 e94 e55 => ?_
    refine awp_loopW (fun (v : (List Var) × Nat × (List ByteArray)) (σ : St) => ast_objects_L1 v.1 v.2.1 v.2.2 = some o95 ∧ v.1 = a0.Vars.drop v.2.1 ∧ σ.env 1 = .cell (.ref (.o 1 0 0) 0) ∧ σ.env 2 = .cell (.ref (.o 1 1 0) 0) ∧ σ.env 3 = .cell (.ref (.o 2 0 0) 0) ∧ σ.env 9 = .cell (sC a0.Vars) ∧ σ.env 10 = iV .i64 ((a0.Vars.length : Nat) : Int) ∧ σ.env 11 = iV .i64 ((v.2.1 : Nat) : Int) ∧ σ.hp (.o 1 0 0) = some (.cells (eA a0)) ∧ σ.hp (.o 1 1 0) = some (.cells [.z, .z, .z, .z, .z]) ∧ σ.hp (.l 4) = some (.pure (encL v.2.2)) ∧ σ.hp (.o 2 0 0) = some (.cells [.z, .sl (.l 4) 0 1 v.2.2.length, .z, .z, .z]) ∧ 3 ≤ σ.gen) (fun v => v.1.length) _ (Gh.voidB _ (.l 4) (.o 2 0 0) 1 1 rfl (by simp; rfl) (by first | rfl | simp) (by simp)) (a0.Vars, 0, []) ⟨e94, by simp, pv f0, pv f0, pv f0, pv f0, pv f0, pv f0, pv f0, pv f0, pv f0, pv f0, pg⟩ fun v σ6 hp L96 hL97 => ?_
    obtain ⟨q99, k81, l82⟩ := v
    dsimp only at hp hL97
    obtain ⟨e94, hd98, h5_1, h5_2, h5_3, h5_9, h5_10, h5_11, g5_0, g5_1, g5_2, g5_3, n5_g⟩ := hp
    have n5_0 : ¬ (σ6.gen = 0) := by omega
    have n5_1 : ¬ (σ6.gen = 1) := by omega
    rcases q99 with _ | ⟨x104, q100⟩
    · have hlt101 := drop_end hd98
      rw [ast_objects_L1] at e94; try dsimp only at e94
      have F1 := an h5_1 (an h5_2 (an h5_3 (an h5_9 (an h5_10 (an h5_11 (an g5_0 (an g5_1 (an g5_2 (an g5_3 (an n5_0 n5_1))))))))))
      refine goR F1 ?_
      refine condK_f (by simp [ltI]; omega) ?_
      obtain rfl := sj e94
      try dsimp only at e55
      exact hK57 l82 _ _ (Gh.ren _ (.l 4) (.l 1) (by simp) rfl rfl) ⟨e55, pv F1, pv F1, pv F1, pv F1, pv F1, pv F1, pv F1, pg⟩
    · obtain ⟨hx103, hlt101, hd105⟩ := drop_next hd98
      have ew102 := wrap_succ hlt101 (hb1).len
      rw [ast_objects_L1] at e94; try dsimp only at e94
      have F2 := an h5_1 (an h5_2 (an h5_3 (an h5_9 (an h5_10 (an h5_11 (an g5_0 (an g5_1 (an g5_2 (an g5_3 (an n5_0 (an n5_1 (an hlt101 ew102))))))))))))
      refine goR F2 ?_
      refine condK_t (by simp [ltI]; omega) ?_
      have f106 : partCV Tryd.prog 69 (encL a0.Vars) (k81 * 2) = some (.agg (eA x104)) := partCV_enc hx103 (f := 0) (by simp)
      revert e94; refine lK fun l107 hx108 e94 => ?_
      have hx108n : l107.length = 1 := by rw [hx108]; rfl
      obtain ⟨g109, e94⟩ := guardO_some e94
      have g109 := limB_t g109
      obtain ⟨g109a, g109b⟩ := g109
      revert e94; refine lK fun l110 hx111 e94 => ?_
      have hx111n : l110.length = (l82.length + l107.length) := by rw [hx111]; simp
      have hx111e : encL l110 = encL l82 ++ encL l107 := by rw [hx111]; simp
      have F3 := an F2 (an f106 (an hx108 (an hx111n hx111e)))
      refine goR F3 ?_
      exact hL97 (q100, (k81 + 1), l110) _ _ (Gh.ren _ (.o (σ6.gen + 3) 5 0) (.l 4) (by simp) rfl rfl) ⟨e94, hd105, pv F3, pv F3, pv F3, pv F3, pv F3, pv F3, pv F3, pv F3, pv F3, pv F3, pg⟩ (by simp)
  · obtain ⟨e55, h4_1, h4_2, h4_3, g4_0, g4_1, g4_2, g4_3, n4_g⟩ := hp
    obtain rfl := sj e55
    try dsimp only at hs
    have n4_0 : ¬ (σ3.gen = 0) := by omega
    have n4_1 : ¬ (σ3.gen = 1) := by omega
    have F4 := an h4_1 (an h4_2 (an h4_3 (an g4_0 (an g4_1 (an g4_2 (an g4_3 (an n4_0 n4_1)))))))
    refine goD2 F4 ?_
    revert hs; refine bK fun o167 e166 hs => ?_
    refine awp_cutK (fun (v : (List ByteArray)) (σ : St) => some (v) = some o167 ∧ σ.env 2 = .cell (.ref (.o 1 1 0) 0) ∧ σ.env 3 = .cell (.ref (.o 2 0 0) 0) ∧ σ.hp (.o 1 1 0) = some (.cells [.z, .z, .z, .z, .z]) ∧ σ.hp (.l 9) = some (.pure (encL v)) ∧ σ.hp (.o 2 0 0) = some (.cells [.z, .sl (.l 1) 0 1 l54.length, sC a0.Mutexes, sC a0.Conds, .sl (.l 9) 0 1 v.length]) ∧ σ.hp (.l 1) = some (.pure (encL l54)) ∧ (σ3.gen + 2) ≤ σ.gen) (by rfl) (fun Q hK168 hX169 => ?_) (fun l165 σ9 hp => ?_)
    · refine goD F4 ?_
      revert e166; refine bK fun o206 e205 e166 => ?_
      refine awp_loopW (fun (v : (List Proc) × Nat × (List ByteArray)) (σ : St) => ast_objects_L2 v.1 v.2.1 v.2.2 = some o206 ∧ v.1 = a0.Procs.drop v.2.1 ∧ σ.env 2 = .cell (.ref (.o 1 1 0) 0) ∧ σ.env 3 = .cell (.ref (.o 2 0 0) 0) ∧ σ.env 30 = .cell (sC a0.Procs) ∧ σ.env 31 = iV .i64 ((a0.Procs.length : Nat) : Int) ∧ σ.env 32 = iV .i64 ((v.2.1 : Nat) : Int) ∧ σ.hp (.o 1 1 0) = some (.cells [.z, .z, .z, .z, .z]) ∧ σ.hp (.l 17) = some (.pure (encL v.2.2)) ∧ σ.hp (.o 2 0 0) = some (.cells [.z, .sl (.l 1) 0 1 l54.length, sC a0.Mutexes, sC a0.Conds, .sl (.l 17) 0 1 v.2.2.length]) ∧ σ.hp (.l 1) = some (.pure (encL l54)) ∧ (σ3.gen + 2) ≤ σ.gen) (fun v => v.1.length) _ (Gh.voidB _ (.l 17) (.o 2 0 0) 4 1 rfl (by simp [F4]; rfl) (by first | rfl | simp) (by simp)) (a0.Procs, 0, []) ⟨e205, by simp, pv F4, pv F4, pv F4, pv F4, pv F4, pv F4, pv F4, pv F4, pv F4, pg⟩ fun v σ12 hp L207 hL208 => ?_
      obtain ⟨q210, k192, l193⟩ := v
      dsimp only at hp hL208
      obtain ⟨e205, hd209, h11_2, h11_3, h11_30, h11_31, h11_32, g11_0, g11_1, g11_2, g11_3, n11_g⟩ := hp
      have n11_0 : ¬ (σ12.gen = 0) := by omega
      have n11_1 : ¬ (σ12.gen = 1) := by omega
      rcases q210 with _ | ⟨x215, q211⟩
      · have hlt212 := drop_end hd209
        rw [ast_objects_L2] at e205; try dsimp only at e205
        have F5 := an h11_2 (an h11_3 (an h11_30 (an h11_31 (an h11_32 (an g11_0 (an g11_1 (an g11_2 (an g11_3 (an n11_0 n11_1)))))))))
        refine goR F5 ?_
        refine condK_f (by simp [ltI]; omega) ?_
        obtain rfl := sj e205
        try dsimp only at e166
        exact hK168 l193 _ _ (Gh.ren _ (.l 17) (.l 9) (by simp) rfl rfl) ⟨e166, pv F5, pv F5, pv F5, pv F5, pv F5, pv F5, pg⟩
      · obtain ⟨hx214, hlt212, hd216⟩ := drop_next hd209
        have ew213 := wrap_succ hlt212 (hb4).len
        rw [ast_objects_L2] at e205; try dsimp only at e205
        have F6 := an h11_2 (an h11_3 (an h11_30 (an h11_31 (an h11_32 (an g11_0 (an g11_1 (an g11_2 (an g11_3 (an n11_0 (an n11_1 (an hlt212 ew213)))))))))))
        refine goR F6 ?_
        refine condK_t (by simp [ltI]; omega) ?_
        have f217 : partCV Tryd.prog 57 (encL a0.Procs) (k192 * 3) = some (.agg (eA x215)) := partCV_enc hx214 (f := 0) (by simp)
        revert e205; refine lK fun l218 hx219 e205 => ?_
        have hx219n : l218.length = 1 := by rw [hx219]; rfl
        obtain ⟨g220, e205⟩ := guardO_some e205
        have g220 := limB_t g220
        obtain ⟨g220a, g220b⟩ := g220
        revert e205; refine lK fun l221 hx222 e205 => ?_
        have hx222n : l221.length = (l193.length + l218.length) := by rw [hx222]; simp
        have hx222e : encL l221 = encL l193 ++ encL l218 := by rw [hx222]; simp
        have F7 := an F6 (an f217 (an hx219 (an hx222n hx222e)))
        refine goR F7 ?_
        exact hL208 (q211, (k192 + 1), l221) _ _ (Gh.ren _ (.o (σ12.gen + 3) 5 0) (.l 17) (by simp) rfl rfl) ⟨e205, hd216, pv F7, pv F7, pv F7, pv F7, pv F7, pv F7, pv F7, pv F7, pv F7, pg⟩ (by simp)
    · obtain ⟨e166, h10_2, h10_3, g10_0, g10_1, g10_2, g10_3, n10_g⟩ := hp
      obtain rfl := sj e166
      try dsimp only at hs
      have n10_0 : ¬ (σ9.gen = 0) := by omega
      have n10_1 : ¬ (σ9.gen = 1) := by omega
      have F8 := an h10_2 (an h10_3 (an g10_0 (an g10_1 (an g10_2 (an g10_3 (an n10_0 n10_1))))))
      refine goD F8 ?_
      obtain rfl := sj hs
      exact hQ _ _ (rg F8 ((Gh.frz _ (.l 1)).trans ((Gh.frz _ (.l 9)).trans (Gh.unz _))))
end Go.Dc
end
section
set_option linter.all false
namespace Go.Dc
open Go Go.Hw Go.Proofs
set_option maxRecDepth 100000
def ast_names_L1 (a0 : List ByteArray) : List ByteArray → Nat → Option (Unit ⊕ (Int × Int))
  | [], k77 => some (.inl ())
  | x103 :: q99, k77 => Option.bind (ast_validName x103) (fun y106 => cond (!y106) (some (.inr (6, ((k77 : Nat) : Int)))) (guardO (slB 0 ((k77 : Nat) : Int) a0.length) (Option.bind (some (subL a0 0 ((k77 : Nat) : Int))) (fun l110 => Option.bind (slices_Contains_string l110 x103) (fun y113 => cond y113 (some (.inr (7, ((k77 : Nat) : Int)))) (ast_names_L1 a0 q99 (k77 + 1)))))))

def ast_names (a0 : List ByteArray) : Option (Int × Int) :=
  Option.bind (α := Unit ⊕ (Int × Int)) (Option.bind (ast_names_L1 a0 a0 0) (fun o => match o with | .inl _ => some (.inl ()) | .inr r116 => some (.inr r116))) (fun o => match o with | .inl _ => some (0, (-1)) | .inr r117 => some r117)

set_option maxHeartbeats 2000000 in
theorem at_ast_names {a0 : List ByteArray} {r : Int × Int} (hs : ast_names a0 = some r) : At Tryd.prog 118 [.cell (sC a0)] (.tup [iV .i64 r.1, iV .i64 r.2]) := by
  refine at_bound (by kernel_rfl) fun hb => ?_
  have hb1 : LenOk (.sl a0.length (encL a0)) := lkc hb
  refine at_code mixed Tryd.func118 (by kernel_rfl) rfl (by kernel_rfl) rfl fun Q hQ => ?_
  rw [ast_names] at hs
  refine goR2 f0 ?_
  revert hs; refine bK fun o58 e57 hs => ?_
  refine awp_cutK (fun (v : Unit) (σ : St) => some (.inl v) = some o58 ∧ 2 ≤ σ.gen) (by rfl) (fun Q hK59 hX60 => ?_) (fun v σ3 hp => ?_)
  · refine goR f0 ?_
    revert e57; refine bK fun o94 e93 e57 => ?_
    refine awp_loopW (fun (v : (List ByteArray) × Nat) (σ : St) => ast_names_L1 a0 v.1 v.2 = some o94 ∧ v.1 = a0.drop v.2 ∧ σ.env 0 = .cell (sC a0) ∧ σ.env 6 = .cell (sC a0) ∧ σ.env 7 = iV .i64 ((a0.length : Nat) : Int) ∧ σ.env 8 = iV .i64 ((v.2 : Nat) : Int) ∧ 2 ≤ σ.gen) (fun v => v.1.length) _ (Gh.refl _) (a0, 0) ⟨e93, by simp, pv f0, pv f0, pv f0, pv f0, pg⟩ fun v σ6 hp L95 hL96 => ?_
    obtain ⟨q98, k77⟩ := v
    dsimp only at hp hL96
    obtain ⟨e93, hd97, h5_0, h5_6, h5_7, h5_8, n5_g⟩ := hp
    rcases q98 with _ | ⟨x103, q99⟩
    · have hlt100 := drop_end hd97
      rw [ast_names_L1] at e93; try dsimp only at e93
      have F1 := an h5_0 (an h5_6 (an h5_7 h5_8))
      refine goR F1 ?_
      refine condK_f (by simp [ltI]; omega) ?_
      obtain rfl := sj e93
      try dsimp only at e57
      exact hK59 () _ _ (Gh.refl _) ⟨e57, pg⟩
    · obtain ⟨hx102, hlt100, hd104⟩ := drop_next hd97
      have ew101 := wrap_succ hlt100 (hb1).len
      rw [ast_names_L1] at e93; try dsimp only at e93
      have F2 := an h5_0 (an h5_6 (an h5_7 (an h5_8 (an hlt100 ew101))))
      refine goR F2 ?_
      refine condK_t (by simp [ltI]; omega) ?_
      have f105 : partCV Tryd.prog 9 (encL a0) (k77) = some (sV x103) := partCV_enc1 hx102 (by simp)
      have F3 := an F2 f105
      refine goR F3 ?_
      revert e93; refine bK fun y106 hx107 e93 => ?_
      refine cP F3 (at_ast_validName hx107) ?_
      refine goR F3 ?_
      revert e93; refine cS F3 ?_ ?_ <;> intro h108 e93
      · refine goR F3 ?_
        obtain rfl := sj e93
        try dsimp only at e57
        obtain rfl := sj e57
        try dsimp only at hs
        refine hX60 _ _ (by simp) ?_
        refine goR F3 ?_
        obtain rfl := sj hs
        exact hQ _ _ (rg F3 (Gh.refl _))
      · obtain ⟨g109, e93⟩ := guardO_some e93
        obtain ⟨g109a, g109b, g109c⟩ := slB_t g109
        revert e93; refine lK fun l110 hx111 e93 => ?_
        have f112n : l110.length = (((k77 : Nat) : Int) - 0).toNat := by rw [hx111]; exact subL_len ⟨g109a, g109b, g109c⟩
        have f112e : ((encL a0).drop ((0 : Int).toNat * 1)).take ((((k77 : Nat) : Int) - 0).toNat * 1) = encL l110 := by rw [hx111]; exact subL_enc (α := ByteArray)
        try simp at f112n
        try simp at f112e
        have f112o : LenOk (.sl l110.length (encL l110)) := by rw [hx111]; exact subL_ok hb1
        have F4 := an F3 (an g109a (an g109b (an g109c (an f112n f112e))))
        refine goR F4 ?_
        revert e93; refine bK fun y113 hx114 e93 => ?_
        refine cP F4 (at_slices_Contains_string hx114) ?_
        refine goR F4 ?_
        revert e93; refine cS F4 ?_ ?_ <;> intro h115 e93
        · refine goR F4 ?_
          obtain rfl := sj e93
          try dsimp only at e57
          obtain rfl := sj e57
          try dsimp only at hs
          refine hX60 _ _ (by simp) ?_
          refine goR F4 ?_
          obtain rfl := sj hs
          exact hQ _ _ (rg F4 (Gh.refl _))
        · refine goR F4 ?_
          exact hL96 (q99, (k77 + 1)) _ _ (Gh.refl _) ⟨e93, hd104, pv F4, pv F4, pv F4, pv F4, pg⟩ (by simp)
  · obtain ⟨e57, n4_g⟩ := hp
    obtain rfl := sj e57
    try dsimp only at hs
    refine goR f0 ?_
    obtain rfl := sj hs
    exact hQ _ _ (rg f0 (Gh.refl _))
end Go.Dc
end
section
set_option linter.all false
namespace Go.Dc
open Go Go.Hw Go.Proofs
set_option maxRecDepth 100000
def ast_head_L1 (a1 : Arr 5 (List ByteArray)) : Nat → Int → Option (Unit ⊕ (Int × Int))
  | 0, _ => none
  | q65 + 1, i50 => cond (!(ltI 4 i50)) (guardO (inB i50 5) (Option.bind (ast_names (a1.f ((i50).toNat))) (fun y72 => cond (!(eqI y72.1 0)) (cond (eqI i50 4) (some (.inr (y72.1, y72.2))) (some (.inr (y72.1, (-1))))) (ast_head_L1 a1 q65 (IntKind.i64.wrap (i50 + 1)))))) (some (.inl ()))

def ast_head_L2 : List Var → Nat → Option (Unit ⊕ (Int × Int))
  | [], k118 => some (.inl ())
  | x135 :: q131, k118 => cond (orB (ltI x135.Init (-2147483648)) (ltI 2147483647 x135.Init)) (some (.inr (2, (-1)))) (ast_head_L2 q131 (k118 + 1))

def ast_head (fuelN : Nat) (a0 : UnitT) (a1 : Arr 5 (List ByteArray)) : Option (Int × Int) :=
  Option.bind (α := Unit ⊕ (Int × Int)) (Option.bind (ast_head_L1 a1 fuelN 1) (fun o => match o with | .inl _ => some (.inl ()) | .inr r76 => some (.inr r76))) (fun o => match o with | .inl _ => cond (orB (orB (orB (ltI 8 ((a0.Vars.length : Nat) : Int)) (ltI 4 ((a0.Mutexes.length : Nat) : Int))) (ltI 4 ((a0.Conds.length : Nat) : Int))) (ltI 8 ((a0.Procs.length : Nat) : Int))) (some (4, (-1))) (Option.bind (α := Unit ⊕ (Int × Int)) (Option.bind (ast_head_L2 a0.Vars 0) (fun o => match o with | .inl _ => some (.inl ()) | .inr r139 => some (.inr r139))) (fun o => match o with | .inl _ => some (0, (-1)) | .inr r140 => some r140)) | .inr r141 => some r141)

set_option maxHeartbeats 2000000 in
theorem at_ast_head {fuelN : Nat} {a0 : UnitT} {a1 : Arr 5 (List ByteArray)} {r : Int × Int} (hs : ast_head fuelN a0 a1 = some r) : At Tryd.prog 69 [.agg (eA a0), .agg [sC (a1.f 0), sC (a1.f 1), sC (a1.f 2), sC (a1.f 3), sC (a1.f 4)]] (.tup [iV .i64 r.1, iV .i64 r.2]) := by
  refine at_bound (by kernel_rfl) fun hb => ?_
  have hb1 : LenOk (.sl a0.Vars.length (encL a0.Vars)) := lkc hb
  have hb2 : LenOk (.sl a0.Mutexes.length (encL a0.Mutexes)) := lkc hb
  have hb3 : LenOk (.sl a0.Conds.length (encL a0.Conds)) := lkc hb
  have hb4 : LenOk (.sl a0.Procs.length (encL a0.Procs)) := lkc hb
  have hb5 : LenOk (.sl a0.Threads.length (encL a0.Threads)) := lkc hb
  have hb6 : LenOk (.sl (a1.f 0).length (encL (a1.f 0))) := lkc hb
  have hb7 : LenOk (.sl (a1.f 1).length (encL (a1.f 1))) := lkc hb
  have hb8 : LenOk (.sl (a1.f 2).length (encL (a1.f 2))) := lkc hb
  have hb9 : LenOk (.sl (a1.f 3).length (encL (a1.f 3))) := lkc hb
  have hb10 : LenOk (.sl (a1.f 4).length (encL (a1.f 4))) := lkc hb
  refine at_code mixed Tryd.func69 (by kernel_rfl) rfl (by kernel_rfl) rfl fun Q hQ => ?_
  rw [ast_head] at hs
  refine goR2 f0 ?_
  revert hs; refine bK fun o38 e37 hs => ?_
  refine awp_cutK (fun (v : Unit) (σ : St) => some (.inl v) = some o38 ∧ σ.env 2 = .cell (.ref (.o 1 0 0) 0) ∧ σ.hp (.o 1 0 0) = some (.cells (eA a0)) ∧ 2 ≤ σ.gen) (by rfl) (fun Q hK39 hX40 => ?_) (fun v σ3 hp => ?_)
  · refine goR f0 ?_
    revert e37; refine bK fun o60 e59 e37 => ?_
    refine awp_loopW (fun (v : Nat × Int) (σ : St) => ast_head_L1 a1 v.1 v.2 = some o60 ∧ σ.env 2 = .cell (.ref (.o 1 0 0) 0) ∧ σ.env 3 = .cell (.ref (.o 1 1 0) 0) ∧ σ.env 6 = iV .i64 v.2 ∧ σ.hp (.o 1 0 0) = some (.cells (eA a0)) ∧ σ.hp (.o 1 1 0) = some (.cells [sC (a1.f 0), sC (a1.f 1), sC (a1.f 2), sC (a1.f 3), sC (a1.f 4)]) ∧ 2 ≤ σ.gen) (fun v => v.1) _ (Gh.refl _) (fuelN, 1) ⟨e59, pv f0, pv f0, pv f0, pv f0, pv f0, pg⟩ fun v σ6 hp L61 hL62 => ?_
    obtain ⟨q64, i50⟩ := v
    dsimp only at hp hL62
    obtain ⟨e59, h5_2, h5_3, h5_6, g5_0, g5_1, n5_g⟩ := hp
    have n5_0 : ¬ (σ6.gen = 0) := by omega
    rcases q64 with _ | q65
    · rw [ast_head_L1] at e59; cases e59
    · rw [ast_head_L1] at e59; try dsimp only at e59
      have F1 := an h5_2 (an h5_3 (an h5_6 (an g5_0 (an g5_1 n5_0))))
      refine goR F1 ?_
      revert e59; refine cS F1 ?_ ?_ <;> intro h69 e59
      · obtain ⟨g70, e59⟩ := guardO_some e59
        have g70a : 0 ≤ i50 := (inB_t g70).1
        have g70b : i50 < 5 := (inB_t g70).2.1
        have g70n : (i50).toNat < 5 :=  by simpa using (inB_t g70).2.2
        have f71 : ([sC (a1.f 0), sC (a1.f 1), sC (a1.f 2), sC (a1.f 3), sC (a1.f 4)] : List AC)[(i50).toNat]? = some (sC (a1.f ((i50).toNat))) := arr_read (n := 5) (fun j => (sC (a1.f j) : AC)) g70n
        have f71t := take_one f71
        have f71g := get_of f71
        have F2 := an F1 (an g70a (an g70b (an g70n (an f71 (an f71t f71g)))))
        refine goR F2 ?_
        revert e59; refine bK fun y72 hx73 e59 => ?_
        refine cP F2 (at_ast_names hx73) ?_
        refine goR F2 ?_
        revert e59; refine cS F2 ?_ ?_ <;> intro h74 e59
        · refine goR F2 ?_
          revert e59; refine cS F2 ?_ ?_ <;> intro h75 e59
          · refine goR F2 ?_
            obtain rfl := sj e59
            try dsimp only at e37
            obtain rfl := sj e37
            try dsimp only at hs
            refine hX40 _ _ (by simp) ?_
            refine goR F2 ?_
            obtain rfl := sj hs
            exact hQ _ _ (rg F2 (Gh.refl _))
          · refine goR F2 ?_
            obtain rfl := sj e59
            try dsimp only at e37
            obtain rfl := sj e37
            try dsimp only at hs
            refine hX40 _ _ (by simp) ?_
            refine goR F2 ?_
            obtain rfl := sj hs
            exact hQ _ _ (rg F2 (Gh.refl _))
        · refine goR F2 ?_
          exact hL62 (q65, IntKind.i64.wrap (i50 + 1)) _ _ (Gh.refl _) ⟨e59, pv F2, pv F2, pv F2, pv F2, pv F2, pg⟩ (by omega)
      · refine goR F1 ?_
        obtain rfl := sj e59
        try dsimp only at e37
        exact hK39 () _ _ (Gh.refl _) ⟨e37, pv F1, pv F1, pg⟩
  · obtain ⟨e37, h4_2, g4_0, n4_g⟩ := hp
    obtain rfl := sj e37
    try dsimp only at hs
    have n4_0 : ¬ (σ3.gen = 0) := by omega
    have F3 := an h4_2 (an g4_0 n4_0)
    refine goG F3 F3 ?_
    revert hs; refine cS F3 ?_ ?_ <;> intro h77 hs
    · refine goG F3 F3 ?_
      obtain rfl := sj hs
      exact hQ _ _ (rg F3 (Gh.refl _))
    · refine goG2 F3 F3 ?_
      revert hs; refine bK fun o108 e107 hs => ?_
      refine awp_cutK (fun (v : Unit) (σ : St) => some (.inl v) = some o108 ∧ (σ3.gen + 2) ≤ σ.gen) (by rfl) (fun Q hK109 hX110 => ?_) (fun v σ9 hp => ?_)
      · refine goG F3 F3 ?_
        revert e107; refine bK fun o126 e125 e107 => ?_
        refine awp_loopW (fun (v : (List Var) × Nat) (σ : St) => ast_head_L2 v.1 v.2 = some o126 ∧ v.1 = a0.Vars.drop v.2 ∧ σ.env 52 = .cell (sC a0.Vars) ∧ σ.env 53 = iV .i64 ((a0.Vars.length : Nat) : Int) ∧ σ.env 54 = iV .i64 ((v.2 : Nat) : Int) ∧ (σ3.gen + 2) ≤ σ.gen) (fun v => v.1.length) _ (Gh.refl _) (a0.Vars, 0) ⟨e125, by simp, pv F3, pv F3, pv F3, pg⟩ fun v σ12 hp L127 hL128 => ?_
        obtain ⟨q130, k118⟩ := v
        dsimp only at hp hL128
        obtain ⟨e125, hd129, h11_52, h11_53, h11_54, n11_g⟩ := hp
        rcases q130 with _ | ⟨x135, q131⟩
        · have hlt132 := drop_end hd129
          rw [ast_head_L2] at e125; try dsimp only at e125
          have F4 := an h11_52 (an h11_53 h11_54)
          refine goR F4 ?_
          refine condK_f (by simp [ltI]; omega) ?_
          obtain rfl := sj e125
          try dsimp only at e107
          exact hK109 () _ _ (Gh.refl _) ⟨e107, pg⟩
        · obtain ⟨hx134, hlt132, hd136⟩ := drop_next hd129
          have ew133 := wrap_succ hlt132 (hb1).len
          rw [ast_head_L2] at e125; try dsimp only at e125
          have F5 := an h11_52 (an h11_53 (an h11_54 (an hlt132 ew133)))
          refine goR F5 ?_
          refine condK_t (by simp [ltI]; omega) ?_
          have f137 : partCV Tryd.prog 69 (encL a0.Vars) (k118 * 2) = some (.agg (eA x135)) := partCV_enc hx134 (f := 0) (by simp)
          have F6 := an F5 f137
          refine goG F6 F6 ?_
          revert e125; refine cS F6 ?_ ?_ <;> intro h138 e125
          · refine goG F6 F6 ?_
            obtain rfl := sj e125
            try dsimp only at e107
            obtain rfl := sj e107
            try dsimp only at hs
            refine hX110 _ _ (by simp) ?_
            refine goG F6 F6 ?_
            obtain rfl := sj hs
            exact hQ _ _ (rg F6 (Gh.refl _))
          · refine goG F6 F6 ?_
            exact hL128 (q131, (k118 + 1)) _ _ (Gh.refl _) ⟨e125, hd136, pv F6, pv F6, pv F6, pg⟩ (by simp)
      · obtain ⟨e107, n10_g⟩ := hp
        obtain rfl := sj e107
        try dsimp only at hs
        refine goG f0 f0 ?_
        obtain rfl := sj hs
        exact hQ _ _ (rg f0 (Gh.refl _))
end Go.Dc
end
section
set_option linter.all false
namespace Go.Dc
open Go Go.Hw Go.Proofs
set_option maxRecDepth 100000
def ast_proc_L1 (fuelN : Nat) (a1 : Arr 5 (List ByteArray)) (y6 : (List ByteArray)) : List (Int × Stmt) → Int → Option (Int ⊕ (Int × Int))
  | [], i30 => some (.inl i30)
  | y20 :: q43, i30 => Option.bind (ast_checker_stmt fuelN ({ objects := a1, locals := y6 } : AstChecker) y20.1 y20.2) (fun y44 => cond (!(eqI y44 0)) (some (.inr (y44, i30))) (ast_proc_L1 fuelN a1 y6 q43 (IntKind.i64.wrap (i30 + 1))))

def ast_proc (fuelN : Nat) (a0 : Proc) (a1 : Arr 5 (List ByteArray)) : Option (Int × Int) :=
  guardO (orB (!(!(eqS a0.Param (⟨#[]⟩ : ByteArray)))) ((ast_validName a0.Param).isSome)) (cond (andB (!(eqS a0.Param (⟨#[]⟩ : ByteArray))) (!((ast_validName a0.Param).getD default))) (some (6, (-1))) (Option.bind (ast_Count a0.Body) (fun y3 => cond (ltI 128 y3) (some (4, (-1))) (Option.bind (ast_Locals a0) (fun y6 => Option.bind (α := Int) (cond (!(eqS a0.Param (⟨#[]⟩ : ByteArray))) (some (IntKind.i64.wrap (((y6.length : Nat) : Int) - 1))) (some (((y6.length : Nat) : Int)))) (fun i9 => cond (ltI 4 i9) (some (4, (-1))) (Option.bind (ast_stmts a0.Body 1) (fun y16 => Option.bind (it_stmts y16.1 y16.2) (fun xs18 => Option.bind (ast_proc_L1 fuelN a1 y6 xs18 0) (fun o => match o with | .inl i35 => some (0, (-1)) | .inr r47 => some r47))))))))))

set_option maxHeartbeats 2000000 in
theorem at_ast_proc {fuelN : Nat} {a0 : Proc} {a1 : Arr 5 (List ByteArray)} {r : Int × Int} (hs : ast_proc fuelN a0 a1 = some r) : At Tryd.prog 70 [.agg (eA a0), .agg [sC (a1.f 0), sC (a1.f 1), sC (a1.f 2), sC (a1.f 3), sC (a1.f 4)]] (.tup [iV .i64 r.1, iV .i64 r.2]) := by
  refine at_bound (by kernel_rfl) fun hb => ?_
  have hb1 : LenOk (.sl a0.Body.length (encL a0.Body)) := lkc hb
  have hb2 : LenOk (.sl (a1.f 0).length (encL (a1.f 0))) := lkc hb
  have hb3 : LenOk (.sl (a1.f 1).length (encL (a1.f 1))) := lkc hb
  have hb4 : LenOk (.sl (a1.f 2).length (encL (a1.f 2))) := lkc hb
  have hb5 : LenOk (.sl (a1.f 3).length (encL (a1.f 3))) := lkc hb
  have hb6 : LenOk (.sl (a1.f 4).length (encL (a1.f 4))) := lkc hb
  refine at_code mixed Tryd.func70 (by kernel_rfl) rfl (by kernel_rfl) rfl fun Q hQ => ?_
  rw [ast_proc] at hs
  refine goG f0 f0 ?_
  obtain ⟨g1, hs⟩ := guardO_some hs
  refine gsel_call (fun hg => at_ast_validName (under_call g1 hg)) (fun hg => by (try simp at hg); (first | simp [hg, id]); try rfl) (fun hg => by (try simp at hg); simp [hg, id]) (by simp) ?_
  refine goG f0 f0 ?_
  revert hs; refine cS f0 ?_ ?_ <;> intro h2 hs
  · refine goG f0 f0 ?_
    obtain rfl := sj hs
    exact hQ _ _ (rg f0 (Gh.refl _))
  · refine goG f0 f0 ?_
    revert hs; refine bK fun y3 hx4 hs => ?_
    refine cP f0 (at_ast_Count hx4) ?_
    refine goG f0 f0 ?_
    revert hs; refine cS f0 ?_ ?_ <;> intro h5 hs
    · refine goG f0 f0 ?_
      obtain rfl := sj hs
      exact hQ _ _ (rg f0 (Gh.refl _))
    · refine goG f0 f0 ?_
      revert hs; refine bK fun y6 hx7 hs => ?_
      refine cP f0 (at_ast_Locals hx7) ?_
      refine goG2 f0 f0 ?_
      revert hs; refine bK fun o11 e10 hs => ?_
      refine awp_cutK (fun (v : Int) (σ : St) => some (v) = some o11 ∧ σ.env 2 = .cell (.ref (.o 1 0 0) 0) ∧ σ.env 3 = .cell (.ref (.o 1 1 0) 0) ∧ σ.env 4 = .cell (.ref (.o 1 2 0) 0) ∧ σ.env 5 = .cell (.ref (.o 1 3 0) 0) ∧ σ.env 6 = .cell (sC y6) ∧ σ.env 7 = iV .i64 v ∧ σ.hp (.o 1 0 0) = some (.cells (eA a0)) ∧ σ.hp (.o 1 1 0) = some (.cells [sC (a1.f 0), sC (a1.f 1), sC (a1.f 2), sC (a1.f 3), sC (a1.f 4)]) ∧ σ.hp (.o 1 2 0) = some (.cells [nC 0]) ∧ σ.hp (.o 1 3 0) = some (.cells [nC 0]) ∧ 6 ≤ σ.gen) (by rfl) (fun Q hK12 hX13 => ?_) (fun i9 σ1 hp => ?_)
      · refine goG f0 f0 ?_
        revert e10; refine cS f0 ?_ ?_ <;> intro h14 e10
        · refine goG f0 f0 ?_
          exact hK12 (IntKind.i64.wrap (((y6.length : Nat) : Int) - 1)) _ _ (Gh.refl _) ⟨e10, pv f0, pv f0, pv f0, pv f0, pv f0, pv f0, pv f0, pv f0, pv f0, pv f0, pg⟩
        · refine goG f0 f0 ?_
          exact hK12 ((y6.length : Nat) : Int) _ _ (Gh.refl _) ⟨e10, pv f0, pv f0, pv f0, pv f0, pv f0, pv f0, pv f0, pv f0, pv f0, pv f0, pg⟩
      · obtain ⟨e10, h2_2, h2_3, h2_4, h2_5, h2_6, h2_7, g2_0, g2_1, g2_2, g2_3, n2_g⟩ := hp
        obtain rfl := sj e10
        try dsimp only at hs
        have n2_0 : ¬ (σ1.gen = 0) := by omega
        have F1 := an h2_2 (an h2_3 (an h2_4 (an h2_5 (an h2_6 (an h2_7 (an g2_0 (an g2_1 (an g2_2 (an g2_3 n2_0)))))))))
        refine goG F1 F1 ?_
        revert hs; refine cS F1 ?_ ?_ <;> intro h15 hs
        · refine goG F1 F1 ?_
          obtain rfl := sj hs
          exact hQ _ _ (rg F1 (Gh.refl _))
        · refine goG F1 F1 ?_
          revert hs; refine bK fun y16 hx17 hs => ?_
          refine cP F1 (at_ast_stmts hx17) ?_
          refine goG F1 F1 ?_
          revert hs; refine bK fun xs18 hx19 hs => ?_
          revert hs; refine bK fun o37 e36 hs => ?_
          refine awp_range (gf := 124) (cs := [.bx [.sl y16.1.length (encL y16.1)], .bx [.c (.int .i64 y16.2)]]) (xs18.map (fun (y : Int × Stmt) => ([.cell (.c (.int .i64 y.1)), .agg [.c (.int .i64 y.2.Kind), .c (.string y.2.Name), .c (.string y.2.Obj), .c (.string y.2.Other), .c (.int .i64 y.2.Fn), .c (.int .i64 y.2.Order), .sl y.2.Exprs.length (encL y.2.Exprs), .sl y.2.Body.length (encL y.2.Body), .sl y.2.Else.length (encL y.2.Else)]] : List EV))) (fun (k38 : Nat) (hp39 : Go.Hw.Id → Option Blk) (gen40 : Nat) => ∃ v : Int, ast_proc_L1 fuelN a1 y6 (xs18.drop k38) v = some o37 ∧ hp39 (.o 1 2 0) = some (.cells [nC 0]) ∧ hp39 (.o 1 3 0) = some (.cells [nC 0]) ∧ hp39 (.o (σ1.gen + 2) 4 0) = some (.cells [.ref (.o (σ1.gen + 2) 3 0) 0]) ∧ hp39 (.o (σ1.gen + 3) 0 0) = some (.cells [nC v]) ∧ hp39 (.o (σ1.gen + 2) 3 0) = some (.cells [sC (a1.f 0), sC (a1.f 1), sC (a1.f 2), sC (a1.f 3), sC (a1.f 4), sC y6]) ∧ (σ1.gen + 4) ≤ gen40) _ (Gh.refl _) (pv F1) (seq_stmtsA hx19) (fun x hx => by obtain ⟨y, _, rfl⟩ := List.mem_map.1 hx; rfl) ⟨0, e36, pv F1, pv F1, pv F1, pv F1, pv F1, pg⟩ (fun k38 x hp39 gen40 hx hI => ?_) (fun hp39 gen40 hI => ?_)
          · obtain ⟨i30, e36, g3_0, g3_1, g3_2, g3_3, g3_4, n3_g⟩ := hI
            try dsimp only at e36 g3_0 g3_1 g3_2 g3_3 g3_4 n3_g
            obtain ⟨y20, hy41, rfl⟩ := map_get hx
            rw [drop_at hy41, ast_proc_L1] at e36; try dsimp only at e36
            have n3_0 : ¬ (gen40 = 0) := by omega
            have n3_σ1gen_0 : ¬ (gen40 = σ1.gen) := by omega
            have n3_σ1gen_0' : ¬ (σ1.gen = gen40) := by omega
            have n3_σ1gen_1 : ¬ (gen40 = σ1.gen + 1) := by omega
            have n3_σ1gen_1' : ¬ (σ1.gen + 1 = gen40) := by omega
            have n3_σ1gen_2 : ¬ (gen40 = σ1.gen + 2) := by omega
            have n3_σ1gen_2' : ¬ (σ1.gen + 2 = gen40) := by omega
            have n3_σ1gen_3 : ¬ (gen40 = σ1.gen + 3) := by omega
            have n3_σ1gen_3' : ¬ (σ1.gen + 3 = gen40) := by omega
            have n3_σ1gen_a : ∀ j, ¬ (gen40 + j = σ1.gen) := fun j => by omega
            have n3_σ1gen_a' : ∀ j, ¬ (σ1.gen = gen40 + j) := fun j => by omega
            have F2 := an h2_2 (an h2_3 (an h2_4 (an h2_5 (an h2_6 (an h2_7 (an n2_0 (an g3_0 (an g3_1 (an g3_2 (an g3_3 (an g3_4 (an n3_0 (an n3_σ1gen_0 (an n3_σ1gen_0' (an n3_σ1gen_1 (an n3_σ1gen_1' (an n3_σ1gen_2 (an n3_σ1gen_2' (an n3_σ1gen_3 (an n3_σ1gen_3' (an n3_σ1gen_a n3_σ1gen_a')))))))))))))))))))))
            refine goG F2 F2 ?_
            revert e36; refine bK fun y44 hx45 e36 => ?_
            refine cA F2 (at_ast_checker_stmt hx45) ?_
            refine goG F2 F2 ?_
            revert e36; refine cS F2 ?_ ?_ <;> intro h46 e36
            · refine goE F2 F2 ?_
              obtain rfl := sj e36
              try dsimp only at hs
              refine rPost_ret ?_
              refine goE F2 F2 ?_
              obtain rfl := sj hs
              exact hQ _ _ (rg F2 (Gh.refl _))
            · refine goG F2 F2 ?_
              refine rPost_gh (Gh.refl _) ⟨IntKind.i64.wrap (i30 + 1), e36, pv F2, pv F2, pv F2, pv F2, pv F2, pg⟩
          · obtain ⟨i30, e36, g3_0, g3_1, g3_2, g3_3, g3_4, n3_g⟩ := hI
            try dsimp only at e36 g3_0 g3_1 g3_2 g3_3 g3_4 n3_g
            rw [show xs18.drop (xs18.map (fun (y : Int × Stmt) => ([.cell (.c (.int .i64 y.1)), .agg [.c (.int .i64 y.2.Kind), .c (.string y.2.Name), .c (.string y.2.Obj), .c (.string y.2.Other), .c (.int .i64 y.2.Fn), .c (.int .i64 y.2.Order), .sl y.2.Exprs.length (encL y.2.Exprs), .sl y.2.Body.length (encL y.2.Body), .sl y.2.Else.length (encL y.2.Else)]] : List EV))).length = [] by simp, ast_proc_L1] at e36; try dsimp only at e36
            have n3_0 : ¬ (gen40 = 0) := by omega
            have n3_σ1gen_0 : ¬ (gen40 = σ1.gen) := by omega
            have n3_σ1gen_0' : ¬ (σ1.gen = gen40) := by omega
            have n3_σ1gen_1 : ¬ (gen40 = σ1.gen + 1) := by omega
            have n3_σ1gen_1' : ¬ (σ1.gen + 1 = gen40) := by omega
            have n3_σ1gen_2 : ¬ (gen40 = σ1.gen + 2) := by omega
            have n3_σ1gen_2' : ¬ (σ1.gen + 2 = gen40) := by omega
            have n3_σ1gen_3 : ¬ (gen40 = σ1.gen + 3) := by omega
            have n3_σ1gen_3' : ¬ (σ1.gen + 3 = gen40) := by omega
            have n3_σ1gen_a : ∀ j, ¬ (gen40 + j = σ1.gen) := fun j => by omega
            have n3_σ1gen_a' : ∀ j, ¬ (σ1.gen = gen40 + j) := fun j => by omega
            obtain rfl := sj e36
            try dsimp only at hs
            have F3 := an h2_2 (an h2_3 (an h2_4 (an h2_5 (an h2_6 (an h2_7 (an n2_0 (an g3_0 (an g3_1 (an g3_2 (an g3_3 (an g3_4 (an n3_0 (an n3_σ1gen_0 (an n3_σ1gen_0' (an n3_σ1gen_1 (an n3_σ1gen_1' (an n3_σ1gen_2 (an n3_σ1gen_2' (an n3_σ1gen_3 (an n3_σ1gen_3' (an n3_σ1gen_a n3_σ1gen_a')))))))))))))))))))))
            refine goG F3 F3 ?_
            obtain rfl := sj hs
            exact hQ _ _ (rg F3 (Gh.refl _))
end Go.Dc
end
section
set_option linter.all false
namespace Go.Dc
open Go Go.Hw Go.Proofs
set_option maxRecDepth 100000
def ast_Check_L1 (fuelN : Nat) (y1 : (Arr 5 (List ByteArray))) : List Proc → Nat → Option (Unit ⊕ (Int × Int × Int))
  | [], k54 => some (.inl ())
  | x73 :: q69, k54 => Option.bind (ast_proc fuelN x73 y1) (fun y76 => cond (!(eqI y76.1 0)) (some (.inr (y76.1, ((k54 : Nat) : Int), y76.2))) (ast_Check_L1 fuelN y1 q69 (k54 + 1)))

def ast_Check_L2 (y1 : (Arr 5 (List ByteArray))) : List Launch → Nat → Option (Unit ⊕ (Int × Int × Int))
  | [], k133 => some (.inl ())
  | x153 :: q149, k133 => Option.bind (slices_Contains_string (y1.f 4) x153.Proc) (fun y156 => cond (!y156) (some (.inr (11, (-1), (-1)))) (cond (orB (ltI x153.Arg (-2147483648)) (ltI 2147483647 x153.Arg)) (some (.inr (2, (-1), (-1)))) (ast_Check_L2 y1 q149 (k133 + 1))))

def ast_Check (fuelN : Nat) (a0 : UnitT) : Option (Int × Int × Int) :=
  Option.bind (ast_objects a0) (fun y1 => Option.bind (ast_head fuelN a0 y1) (fun y3 => cond (!(eqI y3.1 0)) (some (y3.1, y3.2, (-1))) (Option.bind (α := Unit ⊕ (Int × Int × Int)) (Option.bind (ast_Check_L1 fuelN y1 a0.Procs 0) (fun o => match o with | .inl _ => some (.inl ()) | .inr r79 => some (.inr r79))) (fun o => match o with | .inl _ => cond (orB (ltI ((a0.Threads.length : Nat) : Int) 1) (ltI 8 ((a0.Threads.length : Nat) : Int))) (some (4, (-1), (-1))) (Option.bind (α := Unit ⊕ (Int × Int × Int)) (Option.bind (ast_Check_L2 y1 a0.Threads 0) (fun o => match o with | .inl _ => some (.inl ()) | .inr r160 => some (.inr r160))) (fun o => match o with | .inl _ => some (0, (-1), (-1)) | .inr r161 => some r161)) | .inr r162 => some r162))))

set_option maxHeartbeats 2000000 in
theorem at_ast_Check {fuelN : Nat} {a0 : UnitT} {r : Int × Int × Int} (hs : ast_Check fuelN a0 = some r) : At Tryd.prog 28 [.agg (eA a0)] (.tup [iV .i64 r.1, iV .i64 r.2.1, iV .i64 r.2.2]) := by
  refine at_bound (by kernel_rfl) fun hb => ?_
  have hb1 : LenOk (.sl a0.Vars.length (encL a0.Vars)) := lkc hb
  have hb2 : LenOk (.sl a0.Mutexes.length (encL a0.Mutexes)) := lkc hb
  have hb3 : LenOk (.sl a0.Conds.length (encL a0.Conds)) := lkc hb
  have hb4 : LenOk (.sl a0.Procs.length (encL a0.Procs)) := lkc hb
  have hb5 : LenOk (.sl a0.Threads.length (encL a0.Threads)) := lkc hb
  refine at_code mixed Tryd.func28 (by kernel_rfl) rfl (by kernel_rfl) rfl fun Q hQ => ?_
  rw [ast_Check] at hs
  refine goR f0 ?_
  revert hs; refine bK fun y1 hx2 hs => ?_
  refine cP f0 (at_ast_objects hx2) ?_
  refine goR f0 ?_
  revert hs; refine bK fun y3 hx4 hs => ?_
  refine cP f0 (at_ast_head hx4) ?_
  refine goR f0 ?_
  revert hs; refine cS f0 ?_ ?_ <;> intro h5 hs
  · refine goR f0 ?_
    obtain rfl := sj hs
    exact hQ _ _ (rg f0 (Gh.refl _))
  · refine goR2 f0 ?_
    revert hs; refine bK fun o42 e41 hs => ?_
    refine awp_cutK (fun (v : Unit) (σ : St) => some (.inl v) = some o42 ∧ σ.env 1 = .cell (.ref (.o 1 0 0) 0) ∧ σ.env 5 = .cell (.ref (.o 2 2 0) 0) ∧ σ.hp (.o 1 0 0) = some (.cells (eA a0)) ∧ σ.hp (.o 2 2 0) = some (.cells [sC (y1.f 0), sC (y1.f 1), sC (y1.f 2), sC (y1.f 3), sC (y1.f 4)]) ∧ 5 ≤ σ.gen) (by rfl) (fun Q hK43 hX44 => ?_) (fun v σ3 hp => ?_)
    · refine goR f0 ?_
      revert e41; refine bK fun o64 e63 e41 => ?_
      refine awp_loopW (fun (v : (List Proc) × Nat) (σ : St) => ast_Check_L1 fuelN y1 v.1 v.2 = some o64 ∧ v.1 = a0.Procs.drop v.2 ∧ σ.env 1 = .cell (.ref (.o 1 0 0) 0) ∧ σ.env 5 = .cell (.ref (.o 2 2 0) 0) ∧ σ.env 27 = .cell (sC a0.Procs) ∧ σ.env 28 = iV .i64 ((a0.Procs.length : Nat) : Int) ∧ σ.env 29 = iV .i64 ((v.2 : Nat) : Int) ∧ σ.hp (.o 1 0 0) = some (.cells (eA a0)) ∧ σ.hp (.o 2 2 0) = some (.cells [sC (y1.f 0), sC (y1.f 1), sC (y1.f 2), sC (y1.f 3), sC (y1.f 4)]) ∧ 5 ≤ σ.gen) (fun v => v.1.length) _ (Gh.refl _) (a0.Procs, 0) ⟨e63, by simp, pv f0, pv f0, pv f0, pv f0, pv f0, pv f0, pv f0, pg⟩ fun v σ6 hp L65 hL66 => ?_
      obtain ⟨q68, k54⟩ := v
      dsimp only at hp hL66
      obtain ⟨e63, hd67, h5_1, h5_5, h5_27, h5_28, h5_29, g5_0, g5_1, n5_g⟩ := hp
      have n5_0 : ¬ (σ6.gen = 0) := by omega
      have n5_1 : ¬ (σ6.gen = 1) := by omega
      rcases q68 with _ | ⟨x73, q69⟩
      · have hlt70 := drop_end hd67
        rw [ast_Check_L1] at e63; try dsimp only at e63
        have F1 := an h5_1 (an h5_5 (an h5_27 (an h5_28 (an h5_29 (an g5_0 (an g5_1 (an n5_0 n5_1)))))))
        refine goR F1 ?_
        refine condK_f (by simp [ltI]; omega) ?_
        obtain rfl := sj e63
        try dsimp only at e41
        exact hK43 () _ _ (Gh.refl _) ⟨e41, pv F1, pv F1, pv F1, pv F1, pg⟩
      · obtain ⟨hx72, hlt70, hd74⟩ := drop_next hd67
        have ew71 := wrap_succ hlt70 (hb4).len
        rw [ast_Check_L1] at e63; try dsimp only at e63
        have F2 := an h5_1 (an h5_5 (an h5_27 (an h5_28 (an h5_29 (an g5_0 (an g5_1 (an n5_0 (an n5_1 (an hlt70 ew71)))))))))
        refine goR F2 ?_
        refine condK_t (by simp [ltI]; omega) ?_
        have f75 : partCV Tryd.prog 57 (encL a0.Procs) (k54 * 3) = some (.agg (eA x73)) := partCV_enc hx72 (f := 0) (by simp)
        have F3 := an F2 f75
        refine goR F3 ?_
        revert e63; refine bK fun y76 hx77 e63 => ?_
        refine cP F3 (at_ast_proc hx77) ?_
        refine goR F3 ?_
        revert e63; refine cS F3 ?_ ?_ <;> intro h78 e63
        · refine goR F3 ?_
          obtain rfl := sj e63
          try dsimp only at e41
          obtain rfl := sj e41
          try dsimp only at hs
          refine hX44 _ _ (by simp) ?_
          refine goR F3 ?_
          obtain rfl := sj hs
          exact hQ _ _ (rg F3 (Gh.refl _))
        · refine goR F3 ?_
          exact hL66 (q69, (k54 + 1)) _ _ (Gh.refl _) ⟨e63, hd74, pv F3, pv F3, pv F3, pv F3, pv F3, pv F3, pv F3, pg⟩ (by simp)
    · obtain ⟨e41, h4_1, h4_5, g4_0, g4_1, n4_g⟩ := hp
      obtain rfl := sj e41
      try dsimp only at hs
      have n4_0 : ¬ (σ3.gen = 0) := by omega
      have n4_1 : ¬ (σ3.gen = 1) := by omega
      have F4 := an h4_1 (an h4_5 (an g4_0 (an g4_1 (an n4_0 n4_1))))
      refine goG F4 F4 ?_
      revert hs; refine cS F4 ?_ ?_ <;> intro h80 hs
      · refine goG F4 F4 ?_
        obtain rfl := sj hs
        exact hQ _ _ (rg F4 (Gh.refl _))
      · refine goG2 F4 F4 ?_
        revert hs; refine bK fun o120 e119 hs => ?_
        refine awp_cutK (fun (v : Unit) (σ : St) => some (.inl v) = some o120 ∧ (σ3.gen + 2) ≤ σ.gen) (by rfl) (fun Q hK121 hX122 => ?_) (fun v σ9 hp => ?_)
        · refine goG F4 F4 ?_
          revert e119; refine bK fun o144 e143 e119 => ?_
          refine awp_loopW (fun (v : (List Launch) × Nat) (σ : St) => ast_Check_L2 y1 v.1 v.2 = some o144 ∧ v.1 = a0.Threads.drop v.2 ∧ σ.env 5 = .cell (.ref (.o 2 2 0) 0) ∧ σ.env 57 = .cell (sC a0.Threads) ∧ σ.env 58 = iV .i64 ((a0.Threads.length : Nat) : Int) ∧ σ.env 59 = iV .i64 ((v.2 : Nat) : Int) ∧ σ.hp (.o 2 2 0) = some (.cells [sC (y1.f 0), sC (y1.f 1), sC (y1.f 2), sC (y1.f 3), sC (y1.f 4)]) ∧ (σ3.gen + 2) ≤ σ.gen) (fun v => v.1.length) _ (Gh.refl _) (a0.Threads, 0) ⟨e143, by simp, pv F4, pv F4, pv F4, pv F4, pv F4, pg⟩ fun v σ12 hp L145 hL146 => ?_
          obtain ⟨q148, k133⟩ := v
          dsimp only at hp hL146
          obtain ⟨e143, hd147, h11_5, h11_57, h11_58, h11_59, g11_0, n11_g⟩ := hp
          have n11_0 : ¬ (σ12.gen = 0) := by omega
          have n11_1 : ¬ (σ12.gen = 1) := by omega
          rcases q148 with _ | ⟨x153, q149⟩
          · have hlt150 := drop_end hd147
            rw [ast_Check_L2] at e143; try dsimp only at e143
            have F5 := an h11_5 (an h11_57 (an h11_58 (an h11_59 (an g11_0 (an n11_0 n11_1)))))
            refine goR F5 ?_
            refine condK_f (by simp [ltI]; omega) ?_
            obtain rfl := sj e143
            try dsimp only at e119
            exact hK121 () _ _ (Gh.refl _) ⟨e119, pg⟩
          · obtain ⟨hx152, hlt150, hd154⟩ := drop_next hd147
            have ew151 := wrap_succ hlt150 (hb5).len
            rw [ast_Check_L2] at e143; try dsimp only at e143
            have F6 := an h11_5 (an h11_57 (an h11_58 (an h11_59 (an g11_0 (an n11_0 (an n11_1 (an hlt150 ew151)))))))
            refine goR F6 ?_
            refine condK_t (by simp [ltI]; omega) ?_
            have f155 : partCV Tryd.prog 108 (encL a0.Threads) (k133 * 2) = some (.agg (eA x153)) := partCV_enc hx152 (f := 0) (by simp)
            have F7 := an F6 f155
            refine goR F7 ?_
            revert e143; refine bK fun y156 hx157 e143 => ?_
            refine cP F7 (at_slices_Contains_string hx157) ?_
            refine goR F7 ?_
            revert e143; refine cS F7 ?_ ?_ <;> intro h158 e143
            · refine goR F7 ?_
              obtain rfl := sj e143
              try dsimp only at e119
              obtain rfl := sj e119
              try dsimp only at hs
              refine hX122 _ _ (by simp) ?_
              refine goR F7 ?_
              obtain rfl := sj hs
              exact hQ _ _ (rg F7 (Gh.refl _))
            · refine goG F7 F7 ?_
              revert e143; refine cS F7 ?_ ?_ <;> intro h159 e143
              · refine goG F7 F7 ?_
                obtain rfl := sj e143
                try dsimp only at e119
                obtain rfl := sj e119
                try dsimp only at hs
                refine hX122 _ _ (by simp) ?_
                refine goG F7 F7 ?_
                obtain rfl := sj hs
                exact hQ _ _ (rg F7 (Gh.refl _))
              · refine goG F7 F7 ?_
                exact hL146 (q149, (k133 + 1)) _ _ (Gh.refl _) ⟨e143, hd154, pv F7, pv F7, pv F7, pv F7, pv F7, pg⟩ (by simp)
        · obtain ⟨e119, n10_g⟩ := hp
          obtain rfl := sj e119
          try dsimp only at hs
          refine goG f0 f0 ?_
          obtain rfl := sj hs
          exact hQ _ _ (rg f0 (Gh.refl _))
end Go.Dc
end
section
set_option linter.all false
namespace Go.Dc
open Go Go.Hw Go.Proofs
set_option maxRecDepth 100000
def r16_list_L1 (a0 : List ByteArray) : List ByteArray → Nat → Option (Unit ⊕ (Int × Int))
  | [], k101 => some (.inl ())
  | x133 :: q129, k101 => Option.bind (r16_Name x133) (fun y136 => cond (!y136) (some (.inr (6, ((k101 : Nat) : Int)))) (guardO (slB 0 ((k101 : Nat) : Int) a0.length) (Option.bind (some (subL a0 0 ((k101 : Nat) : Int))) (fun l146 => Option.bind (r16_in l146 x133) (fun y149 => cond y149 (some (.inr (7, ((k101 : Nat) : Int)))) (r16_list_L1 a0 q129 (k101 + 1)))))))

def r16_list (a0 : List ByteArray) : Option (Int × Int) :=
  Option.bind (α := Unit ⊕ (Int × Int)) (Option.bind (r16_list_L1 a0 a0 0) (fun o => match o with | .inl _ => some (.inl ()) | .inr r152 => some (.inr r152))) (fun o => match o with | .inl _ => some (0, (-1)) | .inr r153 => some r153)

end Go.Dc
end
section
set_option linter.all false
namespace Go.Dc
open Go Go.Hw Go.Proofs
set_option maxRecDepth 100000
def r16_C_block_L1 (fuelN : Nat) (a2 : Int) (rF123z : R16C → (List Stmt) → Int → Option (Int × R16C)) : List Stmt → Nat → (List ByteArray) → (List Var) → (List ByteArray) → (List ByteArray) → (List Proc) → (List Launch) → (List ByteArray) → (List ByteArray) → Int → Option (((List ByteArray) × (List Var) × (List ByteArray) × (List ByteArray) × (List Proc) × (List Launch) × (List ByteArray) × (List ByteArray) × Int) ⊕ (Int × R16C))
  | [], k142, l143, l144, l145, l146, l147, l148, l149, l150, i151 => some (.inl (l143, l144, l145, l146, l147, l148, l149, l150, i151))
  | x187 :: q183, k142, l143, l144, l145, l146, l147, l148, l149, l150, i151 => Option.bind (r16_C_statement fuelN ({ Vars := l143, U := ({ Vars := l144, Mutexes := l145, Conds := l146, Procs := l147, Threads := l148 } : UnitT), Procs := l149, Locals := l150, At := i151 } : R16C) x187 a2) (fun y190 => cond (!(eqI y190 0)) (some (.inr (y190, ({ Vars := l143, U := ({ Vars := l144, Mutexes := l145, Conds := l146, Procs := l147, Threads := l148 } : UnitT), Procs := l149, Locals := l150, At := i151 } : R16C)))) (Option.bind (rF123z ({ Vars := l143, U := ({ Vars := l144, Mutexes := l145, Conds := l146, Procs := l147, Threads := l148 } : UnitT), Procs := l149, Locals := l150, At := IntKind.i64.wrap (i151 + 1) } : R16C) x187.Body (IntKind.i64.wrap (a2 + 1))) (fun y194 => cond (!(eqI y194.1 0)) (some (.inr (y194.1, y194.2))) (Option.bind (rF123z y194.2 x187.Else (IntKind.i64.wrap (a2 + 1))) (fun y198 => cond (!(eqI y198.1 0)) (some (.inr (y198.1, y198.2))) (r16_C_block_L1 fuelN a2 rF123z q183 (k142 + 1) y198.2.Vars y198.2.U.Vars y198.2.U.Mutexes y198.2.U.Conds y198.2.U.Procs y198.2.U.Threads y198.2.Procs y198.2.Locals y198.2.At))))))

def r16_C_block_B (rF123z : R16C → (List Stmt) → Int → Option (Int × R16C)) (fuelN : Nat) (a0 : R16C) (a1 : List Stmt) (a2 : Int) : Option (Int × R16C) :=
  Option.bind (α := ((List ByteArray) × (List Var) × (List ByteArray) × (List ByteArray) × (List Proc) × (List Launch) × (List ByteArray) × (List ByteArray) × Int) ⊕ (Int × R16C)) (Option.bind (r16_C_block_L1 fuelN a2 rF123z a1 0 a0.Vars a0.U.Vars a0.U.Mutexes a0.U.Conds a0.U.Procs a0.U.Threads a0.Procs a0.Locals a0.At) (fun o => match o with | .inl (l168, l169, l170, l171, l172, l173, l174, l175, i176) => some (.inl (l168, l169, l170, l171, l172, l173, l174, l175, i176)) | .inr r201 => some (.inr r201))) (fun o => match o with | .inl (l95, l96, l97, l98, l99, l100, l101, l102, i103) => some (0, ({ Vars := l95, U := ({ Vars := l96, Mutexes := l97, Conds := l98, Procs := l99, Threads := l100 } : UnitT), Procs := l101, Locals := l102, At := i103 } : R16C)) | .inr r202 => some r202)

def r16_C_block : Nat → R16C → (List Stmt) → Int → Option (Int × R16C)
  | 0 => fun _ _ _ => none
  | fuelN + 1 => fun a0 a1 a2 => r16_C_block_B (r16_C_block fuelN) fuelN a0 a1 a2

end Go.Dc
end
section
set_option linter.all false
namespace Go.Dc
open Go Go.Hw Go.Proofs
set_option maxRecDepth 100000

def r16_C_proc (fuelN : Nat) (a0 : R16C) (a1 : Proc) : Option (Int × Int × R16C) :=
  guardO (orB (!(!(eqS a1.Param (⟨#[]⟩ : ByteArray)))) ((r16_Name a1.Param).isSome)) (cond (andB (!(eqS a1.Param (⟨#[]⟩ : ByteArray))) (!((r16_Name a1.Param).getD default))) (some (6, (-1), a0)) (Option.bind (r16_Count fuelN a1.Body) (fun y3 => cond (ltI 128 y3) (some (4, (-1), a0)) (Option.bind (r16_Locals fuelN a1) (fun y6 => Option.bind (α := Int) (cond (!(eqS a1.Param (⟨#[]⟩ : ByteArray))) (some (IntKind.i64.wrap (4 + 1))) (some (4))) (fun i9 => cond (ltI i9 ((y6.length : Nat) : Int)) (some (4, (-1), { a0 with Locals := y6, At := 0 })) (Option.bind (r16_C_block fuelN ({ a0 with Locals := y6, At := 0 }) a1.Body 1) (fun y16 => cond (!(eqI y16.1 0)) (some (y16.1, y16.2.At, y16.2)) (some (0, (-1), y16.2))))))))))

end Go.Dc
end
section
set_option linter.all false
namespace Go.Dc
open Go Go.Hw Go.Proofs
set_option maxRecDepth 100000
def r16_Check_L1 : List Var → Nat → (List ByteArray) → Option (List ByteArray)
  | [], k127, l128 => some (l128)
  | x158 :: q154, k127, l128 => Option.bind (some ([x158.Name])) (fun l167 => guardO (limB 16 (l128.length + l167.length)) (Option.bind (some (l128 ++ l167)) (fun l170 => r16_Check_L1 q154 (k127 + 1) l170)))

def r16_Check_L2 : List Proc → Nat → (List ByteArray) → Option (List ByteArray)
  | [], k298, l299 => some (l299)
  | x329 :: q325, k298, l299 => Option.bind (some ([x329.Name])) (fun l338 => guardO (limB 16 (l299.length + l338.length)) (Option.bind (some (l299 ++ l338)) (fun l341 => r16_Check_L2 q325 (k298 + 1) l341)))

def r16_Check_L3 : List (List ByteArray) → Nat → Option (Unit ⊕ (Int × Int × Int))
  | [], k400 => some (.inl ())
  | x420 :: q416, k400 => Option.bind (r16_list x420) (fun y424 => cond (andB (!(eqI y424.1 0)) (eqI ((k400 : Nat) : Int) 3)) (some (.inr (y424.1, y424.2, (-1)))) (cond (!(eqI y424.1 0)) (some (.inr (y424.1, (-1), (-1)))) (r16_Check_L3 q416 (k400 + 1))))

def r16_Check_L4 : List Var → Nat → Option (Unit ⊕ (Int × Int × Int))
  | [], k478 => some (.inl ())
  | x497 :: q493, k478 => Option.bind (r16_value x497.Init) (fun y500 => cond (!y500) (some (.inr (2, (-1), (-1)))) (r16_Check_L4 q493 (k478 + 1)))

def r16_Check_L5 (fuelN : Nat) : List Proc → Nat → (List ByteArray) → (List Var) → (List ByteArray) → (List ByteArray) → (List Proc) → (List Launch) → (List ByteArray) → (List ByteArray) → Int → Option (((List ByteArray) × (List Var) × (List ByteArray) × (List ByteArray) × (List Proc) × (List Launch) × (List ByteArray) × (List ByteArray) × Int) ⊕ (Int × Int × Int))
  | [], k639, l640, l641, l642, l643, l644, l645, l646, l647, i648 => some (.inl (l640, l641, l642, l643, l644, l645, l646, l647, i648))
  | x676 :: q672, k639, l640, l641, l642, l643, l644, l645, l646, l647, i648 => Option.bind (r16_C_proc fuelN ({ Vars := l640, U := ({ Vars := l641, Mutexes := l642, Conds := l643, Procs := l644, Threads := l645 } : UnitT), Procs := l646, Locals := l647, At := i648 } : R16C) x676) (fun y679 => cond (!(eqI y679.1 0)) (some (.inr (y679.1, ((k639 : Nat) : Int), y679.2.1))) (r16_Check_L5 fuelN q672 (k639 + 1) y679.2.2.Vars y679.2.2.U.Vars y679.2.2.U.Mutexes y679.2.2.U.Conds y679.2.2.U.Procs y679.2.2.U.Threads y679.2.2.Procs y679.2.2.Locals y679.2.2.At))

def r16_Check_L6 (l593 : List ByteArray) : List Launch → Nat → Option (Unit ⊕ (Int × Int × Int))
  | [], k766 => some (.inl ())
  | x794 :: q790, k766 => Option.bind (r16_in l593 x794.Proc) (fun y800 => cond (!y800) (some (.inr (11, (-1), (-1)))) (Option.bind (r16_value x794.Arg) (fun y804 => cond (!y804) (some (.inr (2, (-1), (-1)))) (r16_Check_L6 l593 q790 (k766 + 1)))))

def r16_Check (fuelN : Nat) (a0 : UnitT) : Option (Int × Int × Int) :=
  Option.bind (α := (List ByteArray)) (Option.bind (r16_Check_L1 a0.Vars 0 []) (fun l147 => some (l147))) (fun l84 => Option.bind (α := (List ByteArray)) (Option.bind (r16_Check_L2 a0.Procs 0 []) (fun l318 => some (l318))) (fun l255 => Option.bind (some ([l84, a0.Mutexes, a0.Conds, l255])) (fun l345 => Option.bind (α := Unit ⊕ (Int × Int × Int)) (guardO (lenB l345.length) (Option.bind (r16_Check_L3 l345 0) (fun o => match o with | .inl _ => some (.inl ()) | .inr r428 => some (.inr r428)))) (fun o => match o with | .inl _ => cond (orB (orB (orB (ltI 8 ((a0.Vars.length : Nat) : Int)) (ltI 4 ((a0.Mutexes.length : Nat) : Int))) (ltI 4 ((a0.Conds.length : Nat) : Int))) (ltI 8 ((a0.Procs.length : Nat) : Int))) (some (4, (-1), (-1))) (Option.bind (α := Unit ⊕ (Int × Int × Int)) (Option.bind (r16_Check_L4 a0.Vars 0) (fun o => match o with | .inl _ => some (.inl ()) | .inr r503 => some (.inr r503))) (fun o => match o with | .inl _ => Option.bind (α := ((List ByteArray) × (List Var) × (List ByteArray) × (List ByteArray) × (List Proc) × (List Launch) × (List ByteArray) × (List ByteArray) × Int) ⊕ (Int × Int × Int)) (Option.bind (r16_Check_L5 fuelN a0.Procs 0 l84 a0.Vars a0.Mutexes a0.Conds a0.Procs a0.Threads l255 [] 0) (fun o => match o with | .inl (l657, l658, l659, l660, l661, l662, l663, l664, i665) => some (.inl (l657, l658, l659, l660, l661, l662, l663, l664, i665)) | .inr r682 => some (.inr r682))) (fun o => match o with | .inl (l587, l588, l589, l590, l591, l592, l593, l594, i595) => cond (orB (ltI ((a0.Threads.length : Nat) : Int) 1) (ltI 8 ((a0.Threads.length : Nat) : Int))) (some (4, (-1), (-1))) (Option.bind (α := Unit ⊕ (Int × Int × Int)) (Option.bind (r16_Check_L6 l593 a0.Threads 0) (fun o => match o with | .inl _ => some (.inl ()) | .inr r807 => some (.inr r807))) (fun o => match o with | .inl _ => some (0, (-1), (-1)) | .inr r808 => some r808)) | .inr r809 => some r809) | .inr r810 => some r810)) | .inr r811 => some r811))))

end Go.Dc
end
