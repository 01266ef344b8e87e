/- Lemmas: an abstract machine over the loaded program, proved sound against the model once; what the program's functions compute. -/
import Derived.Test.YtjlaafdldgmndaaK0
import Derived.KernelRfl
import Derived.Test.YtjlaafdldgmndaaProg
import Derived.Shelf.Slices.Delete
import Derived.WalkKit
import Derived.Lib.ReflectliteSwap
import Derived.Test.YtjlaafdldgmndaaK1
import Derived.Shelf.SlSortCmp.NoneTotal
import Derived.Shelf.SlGeneric
set_option linter.all false
/- The functions of the program, as the abstract machine takes them: printed by gen2.py. -/
namespace Go.AM
set_option linter.unusedVariables false
abbrev I.o (d : Nat) (e : O) : I := ⟨some d, none, e, [], 0⟩
abbrev I.s (e : O) : I := ⟨none, none, e, [], 0⟩
abbrev I.c (n : Nat) (b : Bool) (d : Nat) (e : O) : I := ⟨some d, some (n, b), e, [], 0⟩
abbrev I.z (d : Nat) (e : O) (z : Nat) : I := ⟨some d, none, e, [], z⟩
abbrev I.u (d : Nat) (e : O) (un : List Nat) (z : Nat) : I := ⟨some d, none, e, un, z⟩
def t_pile_Item : TypeId := 36
def t_pile_items_u : TypeId := 181

def n_c_law12_ValueKinds : FuncId := 4
def n_c_law12_awake : FuncId := 9
def n_c_law04_Own : FuncId := 11
def n_pile_Item_Canon : FuncId := 12
def n_pile_Sorted : FuncId := 13
def n_c_law12_Told : FuncId := 14
def n_value_Value_After : FuncId := 16
def n_value_Of : FuncId := 21
def n_cell_New : FuncId := 22
def n_c_ref06_Legal : FuncId := 23
def n_value_Value_Same : FuncId := 24
def n_c_ref06_Check : FuncId := 25
def n_c_ref12_Same : FuncId := 26
def n_c_ref06_Of : FuncId := 38
def n_cell_Memory_Read : FuncId := 48
def n_c_law03_F : FuncId := 49
def n_real_Canon : FuncId := 50
def n_pile_New : FuncId := 51
def n_pile_Pile_All : FuncId := 52
def n_c_law04_Bits : FuncId := 53
def n_op_Op_Check : FuncId := 55
def n_value_Value_without : FuncId := 57
def n_c_ref12_same : FuncId := 60
def n_op_Legal : FuncId := 63
def n_value_bag : FuncId := 64
def n_value_line : FuncId := 65
def n_value_sum : FuncId := 66
def n_net_New : FuncId := 67
def n_net_Net_Out : FuncId := 68
def n_slices_EqualFunc_pile_Item_pile_Item_pile_Item_pile_Item_1 : FuncId := 69
def n_value_Value_Same_1 : FuncId := 70
def n_pile_Item_Cmp : FuncId := 71
def n_cell_Value_Clone : FuncId := 84
def n_container_heap_Init : FuncId := 86
def n_pile_Pile_Take : FuncId := 87
def n_c_ref03_Bits : FuncId := 88
def n_op_Of : FuncId := 89
def n_slices_IndexFunc_pile_Item_pile_Item : FuncId := 90
def n_value_Value_without_1 : FuncId := 91
def n_c_ref04_Cmp : FuncId := 93
def n_cell_Memory_Len : FuncId := 94
def n_value_line_1 : FuncId := 96
def n_wire_Make : FuncId := 97
def n_real_Cmp : FuncId := 98
def n_container_heap_down : FuncId := 106
def n_container_heap_Pop : FuncId := 107
def n_c_ref03_Cmp : FuncId := 108
def n_wire_Plan_count : FuncId := 111
def n_real_Key : FuncId := 112
def n_c_ref03_Key : FuncId := 115
def n_wire_Plan_merge : FuncId := 126
def n_slices_xorshift_Next : FuncId := 129
def n_wire_every : FuncId := 132
def n_pile_items_Len : FuncId := 156
def n_pile_items_Less : FuncId := 157
def n_pile_items_Swap : FuncId := 158
def n_pile_items_Pop : FuncId := 159
def n_pile_items_Len_q : FuncId := 1000156
def n_pile_items_Less_q : FuncId := 1000157
def n_pile_items_Swap_q : FuncId := 1000158
def n_slices_Clone_pile_Item_pile_Item : FuncId := 56
def n_slices_Delete_pile_Item_pile_Item : FuncId := 92
def n_slices_SortFunc_cell_Cell_cell_Cell : FuncId := 95
def F_c_law12_ValueKinds : F := ⟨6,[.inl 12],
 (.seq (.reg [] [.o 10 (.bx (.k 4)),
 .o 11 (.bx (.k 5)),
 .o 12 (.mv (.c (.b false)))] false [0,1,2,3,10,11] [10,11])
 (.seq (.seq (.reg [] [.o 20 (.call n_c_law12_awake []),
 .o 21 (.un .not (.k 20))] false [0,1,2,3,10,11,21] [10,11])
 (.cond 21 (.seq (.reg [] [.o 12 (.mv (.c (.b false)))] false [12] [])
 .ret)
 .skip))
 (.seq (.reg [] [.o 23 (.mv (.t 0)),
 .o 24 (.mv (.t 1)),
 .o 25 (.call n_cell_New []),
 .o 26 (.call n_value_Of [.k 23,.k 24,.k 25]),
 .o 22 (.mv (.k 26)),
 .o 27 (.ex false 0 22),
 .o 28 (.ex false 1 22),
 .o 13 (.al ([.i .i64 0,.l .o 2 [],.i .i64 0])),
 .s (.st 3 (.t 13) (.k 27)),
 .o 14 (.mv (.k 28))] false [0,1,2,3,10,11,13,14] [10,11,13])
 (.seq (.seq (.reg [] [.o 29 (.mv (.t 14)),
 .o 30 (.mv (.t 0)),
 .o 31 (.mv (.k 1)),
 .o 32 (.call n_c_ref06_Legal [.k 30,.k 31]),
 .o 33 (.bin .neq (.k 29) (.k 32)),
 .o 34 (.mv (.k 33)),
 .c 34 false 35 (.mv (.t 14)),
 .c 34 false 36 (.bin .neq (.k 35) (.c (.i .i64 0))),
 .c 34 false 37 (.mv (.k 36)),
 .c 37 true 38 (.fa 0 (.t 13)),
 .c 37 true 39 (.ld false 1 .cp (.k 38)),
 .c 37 true 40 (.bin .neq (.k 39) (.c (.i .i64 0))),
 .c 34 false 41 (.pick (.k 37) (.k 40) (.c (.b false))),
 .o 42 (.pick (.k 34) (.c (.b true)) (.k 41)),
 .o 43 (.mv (.k 42)),
 .c 43 false 44 (.mv (.k 14)),
 .c 43 false 45 (.bin .eql (.k 44) (.c (.i .i64 0))),
 .c 43 false 46 (.mv (.k 45)),
 .c 46 true 47 (.fa 0 (.k 13)),
 .c 46 true 48 (.ld false 1 .cp (.k 47)),
 .c 46 true 49 (.mv (.t 0)),
 .c 46 true 50 (.bin .neq (.k 48) (.k 49)),
 .c 43 false 51 (.pick (.k 46) (.k 50) (.c (.b false))),
 .o 52 (.pick (.k 43) (.c (.b true)) (.k 51))] false [0,2,3,10,11,52] [10,11])
 (.cond 52 (.seq (.reg [] [.o 12 (.mv (.c (.b false)))] false [12] [])
 .ret)
 .skip))
 (.seq (.reg [] [.o 53 (.mv (.t 0)),
 .o 54 (.bd ([.i .i64 0,.l .o 2 [],.i .i64 0]) [(0,1,.k 53),(2,1,.c (.i .i64 5))]),
 .o 15 (.al ([.i .i64 0,.l .o 2 [],.i .i64 0])),
 .s (.st 3 (.t 15) (.k 54))] false [0,2,3,10,11,15] [10,11,15])
 (.seq (.reg [] [.z 56 (.ld true 3 .cp (.t 15)) 2,
 .o 57 (.mv (.t 2)),
 .o 58 (.mv (.t 3)),
 .o 59 (.bd ([.f .f64 0,.i .i64 0]) [(1,1,.k 58)]),
 .o 60 (.bd ([.i .i64 0,.f .f64 0,.i .i64 0,.i .i64 0,.i .i64 0]) [(0,1,.k 57),(1,2,.k 59)]),
 .o 61 (.bd ([.b false,.f .f64 0,.i .i64 0,.i .i64 0]) []),
 .o 62 (.call n_value_Value_After [.k 56,.k 60,.k 61,.c (.i .i64 1)]),
 .o 55 (.mv (.k 62)),
 .o 63 (.ex false 0 55),
 .o 64 (.ex false 1 55),
 .o 16 (.al ([.i .i64 0,.l .o 2 [],.i .i64 0])),
 .s (.st 3 (.t 16) (.k 63)),
 .o 17 (.mv (.k 64))] false [0,2,3,10,11,15,16,17] [10,11,15,16])
 (.seq (.seq (.reg [] [.z 65 (.ld true 3 .tk (.k 16)) 2,
 .z 66 (.ld true 3 .cp (.t 15)) 2,
 .o 67 (.call n_value_Value_Same [.k 65,.k 66]),
 .o 68 (.un .not (.k 67)),
 .o 69 (.mv (.k 68)),
 .c 69 false 70 (.mv (.k 17)),
 .c 69 false 71 (.mv (.k 0)),
 .c 69 false 72 (.mv (.t 2)),
 .c 69 false 73 (.mv (.k 3)),
 .c 69 false 74 (.call n_c_ref06_Check [.k 71,.k 72,.k 73]),
 .c 69 false 75 (.bin .eql (.k 74) (.c (.i .i64 0))),
 .c 69 false 76 (.mv (.k 75)),
 .c 76 true 77 (.mv (.k 2)),
 .c 76 true 78 (.bin .lss (.k 77) (.c (.i .i64 5))),
 .c 69 false 79 (.pick (.k 76) (.k 78) (.c (.b false))),
 .c 69 false 80 (.eq true .bo (.k 70) (.k 79)),
 .o 81 (.pick (.k 69) (.c (.b true)) (.k 80))] false [10,11,15,81] [10,11,15])
 (.cond 81 (.seq (.reg [] [.o 12 (.mv (.c (.b false)))] false [12] [])
 .ret)
 .skip))
 (.seq (.reg [] [.o 82 (.ld true 2 .cp (.k 10)),
 .o 83 (.call n_c_law04_Own [.k 82]),
 .z 84 (.bs 2 1 (.a ([.f .f64 0,.i .i64 0])) [(0,.k 83)]) 1,
 .o 85 (.bd ([.i .i64 0,.l .o 2 [],.i .i64 0]) [(1,1,.k 84)]),
 .u 86 (.ld true 2 .cp (.k 11)) [0,1,2,3] 0,
 .u 87 (.call n_c_law04_Own [.k 86]) [2,3] 0,
 .u 88 (.bs 2 1 (.a ([.f .f64 0,.i .i64 0])) [(0,.k 87)]) [2,3] 1,
 .u 89 (.bd ([.i .i64 0,.l .o 2 [],.i .i64 0]) [(1,1,.k 88)]) [2,3] 0,
 .u 18 (.al ([.i .i64 0,.l .o 2 [],.i .i64 0])) [0,1,2,3,4,5,6,7] 0,
 .u 19 (.al ([.i .i64 0,.l .o 2 [],.i .i64 0])) [0,1,2,3,4,5,6,7,8] 0,
 ⟨none,none,.st 3 (.t 18) (.k 85),[6,7],0⟩,
 .s (.st 3 (.t 19) (.k 89))] true [15,18,19] [15,18,19])
 (.seq (.reg [] [.z 90 (.ld true 3 .cp (.t 18)) 2,
 .u 91 (.ld true 3 .cp (.t 19)) [0] 2,
 .o 92 (.call n_value_Value_Same [.k 90,.k 91]),
 .u 93 (.ld true 3 .cp (.t 18)) [0,1,2] 2,
 .z 94 (.call n_c_law12_Told [.k 93]) 2,
 .u 95 (.ld true 3 .cp (.t 19)) [0,1,2,3,4] 2,
 .z 96 (.call n_c_law12_Told [.k 95]) 2,
 .o 97 (.call n_c_ref12_Same [.k 94,.k 96]),
 .o 98 (.bin .eql (.k 97) (.c (.i .i64 0))),
 .o 99 (.eq false .bo (.k 92) (.k 98)),
 .o 100 (.mv (.k 99)),
 ⟨some 101,some (100,true),.ld true 3 .cp (.t 18),[],2⟩,
 ⟨some 102,some (100,true),.ld true 3 .cp (.t 18),[11],2⟩,
 .c 100 true 103 (.call n_value_Value_Same [.k 101,.k 102]),
 .o 104 (.pick (.t 100) (.k 103) (.c (.b false))),
 .o 105 (.mv (.k 104)),
 ⟨some 106,some (105,true),.ld true 3 .cp (.t 18),[],2⟩,
 ⟨some 107,some (105,true),.ld true 3 .cp (.k 15),[16],2⟩,
 .c 105 true 108 (.call n_value_Value_Same [.k 106,.k 107]),
 .c 105 true 109 (.un .not (.k 108)),
 .o 110 (.pick (.t 105) (.k 109) (.c (.b false))),
 .o 12 (.mv (.k 110))] true [12] [])
 .ret)))))))))⟩

def F_c_law12_awake : F := ⟨0,[.inl 0],
 (.seq (.reg [] [.o 0 (.mv (.c (.b false)))] false [] [])
 (.seq (.reg [] [.o 9 (.call n_cell_New []),
 .o 10 (.call n_value_Of [.c (.i .i64 4),.c (.i .i64 5),.k 9]),
 .o 8 (.mv (.k 10)),
 .o 11 (.ex false 0 8),
 .o 12 (.ex false 1 8),
 .o 1 (.al ([.i .i64 0,.l .o 2 [],.i .i64 0])),
 .s (.st 3 (.k 1) (.k 11)),
 .o 2 (.mv (.k 12))] false [2] [])
 (.seq (.reg [] [.o 13 (.bd ([.f .f64 0,.i .i64 0]) [(1,1,.c (.i .i64 1))]),
 .o 14 (.bd ([.f .f64 0,.i .i64 0]) [(1,1,.c (.i .i64 2))]),
 .o 3 (.al ([.f .f64 0,.i .i64 0])),
 .o 4 (.al ([.f .f64 0,.i .i64 0])),
 .s (.st 2 (.t 3) (.k 13)),
 .s (.st 2 (.t 4) (.k 14))] false [2,3,4] [3,4])
 (.seq (.reg [] [.o 15 (.ld true 2 .cp (.t 3)),
 .o 16 (.ld true 2 .cp (.t 4)),
 .o 17 (.ld true 2 .cp (.t 3)),
 .z 18 (.bs 2 3 (.a ([.f .f64 0,.i .i64 0])) [(0,.k 15),(1,.k 16),(2,.k 17)]) 1,
 .o 19 (.bd ([.i .i64 0,.l .o 2 [],.i .i64 0]) [(0,1,.c (.i .i64 2)),(1,1,.k 18)]),
 .o 5 (.al ([.i .i64 0,.l .o 2 [],.i .i64 0])),
 .s (.st 3 (.t 5) (.k 19))] false [2,3,4,5] [3,4,5])
 (.seq (.reg [] [.z 21 (.ld true 3 .cp (.t 5)) 2,
 .o 22 (.bd ([.i .i64 0,.f .f64 0,.i .i64 0,.i .i64 0,.i .i64 0]) [(0,1,.c (.i .i64 4))]),
 .o 23 (.ld true 2 .cp (.k 3)),
 .o 24 (.bd ([.b false,.f .f64 0,.i .i64 0,.i .i64 0]) [(0,1,.c (.b true)),(1,2,.k 23)]),
 .o 25 (.call n_value_Value_After [.k 21,.k 22,.k 24,.c (.i .i64 2)]),
 .o 20 (.mv (.k 25)),
 .o 26 (.ex false 0 20),
 .o 27 (.ex false 1 20),
 .o 6 (.al ([.i .i64 0,.l .o 2 [],.i .i64 0])),
 .s (.st 3 (.t 6) (.k 26)),
 .o 7 (.mv (.k 27))] false [2,4,5,6,7] [4,5,6])
 (.seq (.reg [] [.o 28 (.mv (.k 2)),
 .o 29 (.bin .eql (.k 28) (.c (.i .i64 5))),
 .o 30 (.mv (.k 29)),
 .c 30 true 31 (.mv (.k 7)),
 .o 32 (.pick (.t 30) (.k 31) (.c (.b false))),
 .o 33 (.mv (.k 32)),
 .c 33 true 34 (.fa 1 (.t 6)),
 .c 33 true 35 (.ld false 1 .cp (.k 34)),
 .c 33 true 36 (.len false (.k 35)),
 .c 33 true 37 (.bin .eql (.k 36) (.c (.i .i64 2))),
 .o 38 (.pick (.t 33) (.k 37) (.c (.b false))),
 .o 39 (.mv (.k 38)),
 .c 39 true 40 (.fa 1 (.t 6)),
 .c 39 true 41 (.ld false 1 .cp (.k 40)),
 .c 39 true 42 (.ia 2 none (.k 41) (.c (.i .i64 0))),
 .c 39 true 43 (.ld true 2 .cp (.k 42)),
 ⟨some 44,some (39,true),.ld true 2 .cp (.k 4),[12,13,14,15],0⟩,
 .c 39 true 45 (.eqa false [.fl,.it] (.k 43) (.k 44)),
 .o 46 (.pick (.t 39) (.k 45) (.c (.b false))),
 .o 47 (.mv (.k 46)),
 ⟨some 48,some (47,true),.ld true 3 .cp (.k 5),[],2⟩,
 ⟨some 49,some (47,true),.ld true 3 .cp (.t 6),[20],2⟩,
 .c 47 true 50 (.call n_value_Value_Same [.k 48,.k 49]),
 .c 47 true 51 (.un .not (.k 50)),
 .o 52 (.pick (.t 47) (.k 51) (.c (.b false))),
 .o 0 (.mv (.k 52))] true [0] [])
 .ret))))))⟩

def F_c_law04_Own : F := ⟨1,[.inr (2,true,2)],
 (.seq (.reg [] [.o 1 (.bx (.k 0)),
 .o 2 (.al ([.f .f64 0,.i .i64 0]))] false [1,2] [1,2])
 (.seq (.reg [] [.o 3 (.fa 0 (.t 1)),
 .o 4 (.ld false 1 .cp (.k 3)),
 .o 5 (.call n_c_law03_F [.k 4]),
 .u 6 (.fa 1 (.t 1)) [0,1,2] 0,
 .u 7 (.ld false 1 .cp (.k 6)) [0,1,2] 0,
 .o 8 (.bd ([.f .f64 0,.i .i64 0]) [(0,1,.k 5),(1,1,.k 7)]),
 .s (.st 2 (.t 2) (.k 8))] true [2] [2])
 .ret))⟩

def F_pile_Item_Canon : F := ⟨1,[.inr (2,true,2)],
 (.seq (.reg [] [.o 1 (.bx (.k 0)),
 .o 2 (.al ([.f .f64 0,.i .i64 0]))] false [1,2] [1,2])
 (.seq (.reg [] [.o 3 (.fa 0 (.t 1)),
 .o 4 (.ld false 1 .cp (.k 3)),
 .o 5 (.call n_real_Canon [.k 4]),
 .u 6 (.fa 1 (.t 1)) [0,1,2] 0,
 .u 7 (.ld false 1 .cp (.k 6)) [0,1,2] 0,
 .o 8 (.bd ([.f .f64 0,.i .i64 0]) [(0,1,.k 5),(1,1,.k 7)]),
 .s (.st 2 (.t 2) (.k 8))] true [2] [2])
 .ret))⟩

def F_pile_Sorted : F := ⟨1,[.inl 2],
 (.seq (.reg [.zz 0] [.o 2 (.mv (.c (.l .o 2 [])))] false [0] [])
 (.seq (.reg [] [.z 3 (.mv (.k 0)) 2,
 .o 4 (.call n_pile_New [.k 3]),
 .o 5 (.call n_pile_Pile_All [.k 4]),
 .o 2 (.mv (.k 5))] false [2] [])
 .ret))⟩

def F_c_law12_Told : F := ⟨1,[.inr (2,true,3)],
 (.seq (.reg [.zz 0] [.o 1 (.bx (.k 0)),
 .o 2 (.al ([.i .i64 0,.l .o 2 [],.i .i64 0]))] false [1,2] [1,2])
 (.seq (.reg [] [.o 6 (.fa 0 (.t 1)),
 .o 7 (.ld false 1 .cp (.k 6)),
 .o 8 (.fa 2 (.t 1)),
 .o 9 (.ld false 1 .cp (.k 8)),
 .o 10 (.bd ([.i .i64 0,.l .o 2 [],.i .i64 0]) [(0,1,.k 7),(2,1,.k 9)]),
 .o 3 (.al ([.i .i64 0,.l .o 2 [],.i .i64 0])),
 .s (.st 3 (.t 3) (.k 10))] false [1,2,3] [1,2,3])
 (.seq (.seq (.reg [] [.o 11 (.fa 1 (.k 1)),
 .o 12 (.ld false 1 .tk (.k 11)),
 .o 13 (.len false (.t 12)),
 .o 14 (.mv (.c (.i .i64 0)))] false [2,3,12,13,14] [2,3])
 (.blk 0 (.loop (.seq (.reg [] [.o 15 (.bin .lss (.t 14) (.t 13))] false [2,3,12,13,14,15] [2,3])
 (.seq (.cond 15 .skip
 (.exit 0))
 (.seq (.blk 1 (.seq (.reg [] [.o 16 (.ia 2 none (.t 12) (.t 14)),
 .o 17 (.ld true 2 .cp (.k 16)),
 .o 5 (.al ([.f .f64 0,.i .i64 0])),
 .s (.st 2 (.t 5) (.k 17))] false [2,3,5,12,13,14] [2,3,5])
 (.reg [] [.o 18 (.fa 1 (.t 3)),
 .o 19 (.ld false 1 .tk (.k 18)),
 .u 20 (.ld true 2 .cp (.t 5)) [0,1] 0,
 .u 21 (.call n_c_law04_Bits [.k 20]) [0,1] 0,
 .u 22 (.fa 1 (.t 5)) [0,1,2,3] 0,
 .u 23 (.ld false 1 .cp (.k 22)) [0,1,2,3] 0,
 .u 24 (.bd ([.i .u64 0,.i .i64 0]) [(0,1,.k 21),(1,1,.k 23)]) [0,1] 0,
 .u 25 (.bs 2 1 (.a ([.i .u64 0,.i .i64 0])) [(0,.k 24)]) [0,1] 0,
 .z 26 (.app 2 16 (.k 19) (.k 25)) 1,
 .o 27 (.fa 1 (.t 3)),
 .s (.st 1 (.k 27) (.k 26))] true [2,3,12,13,14] [2,3])))
 (.reg [] [.o 28 (.bin .add (.k 14) (.c (.i .i64 1))),
 .o 14 (.mv (.k 28))] false [2,3,12,13,14] [2,3])))))))
 (.seq (.reg [] [.o 29 (.ld true 3 .tk (.k 3)),
 .s (.st 3 (.t 2) (.k 29))] false [2] [2])
 .ret))))⟩

def F_value_Value_After : F := ⟨4,[.inr (8,true,3),.inl 9],
 (.seq (.reg [.zz 0] [.o 4 (.bx (.k 0)),
 .o 5 (.bx (.k 1)),
 .o 6 (.bx (.k 2)),
 .o 8 (.al ([.i .i64 0,.l .o 2 [],.i .i64 0])),
 .o 9 (.mv (.c (.b false)))] false [3,4,5,6,8] [4,5,6,8])
 (.seq (.seq (.reg [] [.o 10 (.ld true 5 .cp (.t 5)),
 .o 11 (.fa 0 (.t 4)),
 .o 12 (.ld false 1 .cp (.k 11)),
 .o 13 (.call n_op_Op_Check [.k 10,.k 12]),
 .o 14 (.bin .neq (.k 13) (.c (.i .i64 0)))] false [3,4,5,6,8,14] [4,5,6,8])
 (.cond 14 (.seq (.reg [] [.o 15 (.ld true 3 .tk (.k 4)),
 .s (.st 3 (.t 8) (.k 15)),
 .o 9 (.mv (.c (.b false)))] false [8,9] [8])
 .ret)
 .skip))
 (.seq (.seq (.reg [] [.o 16 (.fa 0 (.t 6)),
 .o 17 (.ld false 1 .cp (.k 16)),
 .o 18 (.un .not (.k 17))] false [3,4,5,6,8,18] [4,5,6,8])
 (.cond 18 (.seq (.reg [] [.o 19 (.ld true 3 .cp (.k 4)),
 .u 20 (.fa 0 (.k 5)) [0] 0,
 .u 21 (.ld false 1 .cp (.k 20)) [0] 0,
 .u 22 (.bin .leq (.k 21) (.c (.i .i64 4))) [0] 0,
 ⟨none,none,.st 3 (.t 8) (.k 19),[1,2,3],0⟩,
 .o 9 (.mv (.k 22))] true [8,9] [8])
 .ret)
 .skip))
 (.seq (.seq (.reg [] [.o 23 (.fa 0 (.t 5)),
 .o 24 (.ld false 1 .cp (.k 23))] false [3,4,5,6,8,24] [4,5,6,8])
 (.blk 0 (.seq (.reg [] [.o 26 (.bin .eql (.t 24) (.c (.i .i64 1))),
 .o 25 (.mv (.k 26))] false [3,4,5,6,8,24,25] [4,5,6,8])
 (.cond 25 (.reg [] [.o 27 (.fa 1 (.t 4)),
 .z 28 (.ld false 1 .cp (.k 27)) 2,
 .o 29 (.call n_slices_Clone_pile_Item_pile_Item [.k 28]),
 .u 30 (.fa 1 (.k 5)) [0,1,2] 0,
 .u 31 (.ld true 2 .cp (.k 30)) [0,1,2] 0,
 .u 32 (.bs 2 1 (.a ([.f .f64 0,.i .i64 0])) [(0,.k 31)]) [0,1,2] 0,
 .z 33 (.app 2 16 (.k 29) (.k 32)) 2,
 .o 34 (.call n_pile_Sorted [.k 33]),
 .o 35 (.fa 1 (.t 4)),
 .s (.st 1 (.k 35) (.k 34))] true [4,8] [4,8])
 (.seq (.reg [] [.o 37 (.bin .eql (.t 24) (.c (.i .i64 3))),
 .o 36 (.mv (.k 37))] false [3,4,5,6,8,24,36] [4,5,6,8])
 (.cond 36 (.reg [] [.o 38 (.fa 1 (.t 4)),
 .z 39 (.ld false 1 .cp (.k 38)) 2,
 .o 40 (.call n_slices_Clone_pile_Item_pile_Item [.k 39]),
 .u 41 (.fa 1 (.k 5)) [0,1,2] 0,
 .u 42 (.ld true 2 .cp (.k 41)) [0,1,2] 0,
 .o 43 (.call n_pile_Item_Canon [.k 42]),
 .o 44 (.bs 2 1 (.a ([.f .f64 0,.i .i64 0])) [(0,.k 43)]),
 .z 45 (.app 2 16 (.k 40) (.k 44)) 1,
 .o 46 (.fa 1 (.t 4)),
 .s (.st 1 (.k 46) (.k 45))] true [4,8] [4,8])
 (.seq (.reg [] [.o 48 (.bin .eql (.t 24) (.c (.i .i64 2))),
 .o 47 (.mv (.k 48))] false [3,4,5,6,8,24,47] [4,5,6,8])
 (.cond 47 (.seq (.reg [] [.z 49 (.ld true 3 .cp (.t 4)) 2,
 .o 50 (.fa 1 (.k 6)),
 .o 51 (.ld true 2 .cp (.k 50)),
 .o 52 (.fa 1 (.k 4)),
 .o 53 (.ld false 1 .tk (.k 52)),
 .o 54 (.len false (.k 53)),
 .o 55 (.call n_value_Value_without [.k 49,.k 51,.k 54]),
 .o 56 (.ex false 0 55),
 .o 57 (.ex false 1 55),
 .s (.st 3 (.t 8) (.k 56)),
 .o 9 (.mv (.k 57))] false [8,9] [8])
 .ret)
 (.seq (.reg [] [.o 59 (.bin .eql (.t 24) (.c (.i .i64 4))),
 .o 58 (.mv (.k 59))] false [3,4,5,6,8,24,58] [4,5,6,8])
 (.cond 58 (.seq (.reg [] [.z 60 (.ld true 3 .tk (.k 4)) 2,
 .o 61 (.fa 1 (.k 6)),
 .o 62 (.ld true 2 .cp (.k 61)),
 .o 63 (.mv (.k 3)),
 .o 64 (.call n_value_Value_without [.k 60,.k 62,.k 63]),
 .o 65 (.ex false 0 64),
 .o 66 (.ex false 1 64),
 .s (.st 3 (.t 8) (.k 65)),
 .o 9 (.mv (.k 66))] false [8,9] [8])
 .ret)
 (.seq (.reg [] [.o 68 (.bin .eql (.t 24) (.c (.i .i64 5))),
 .o 67 (.mv (.k 68))] false [4,5,8,24,67] [4,5,8])
 (.cond 67 (.reg [] [.o 69 (.fa 2 (.t 4)),
 .o 70 (.ld false 1 .cp (.k 69)),
 .o 71 (.fa 1 (.k 5)),
 .o 72 (.fa 1 (.k 71)),
 .o 73 (.ld false 1 .cp (.k 72)),
 .o 74 (.bin .add (.k 70) (.k 73)),
 .o 75 (.fa 2 (.t 4)),
 .s (.st 1 (.k 75) (.k 74))] false [4,8] [4,8])
 (.seq (.reg [] [.o 77 (.bin .eql (.k 24) (.c (.i .i64 7))),
 .o 76 (.mv (.k 77))] false [4,8,76] [4,8])
 (.cond 76 (.reg [] [.o 78 (.fa 2 (.t 4)),
 .o 79 (.ld false 1 .cp (.k 78)),
 .o 80 (.bin .add (.k 79) (.c (.i .i64 1))),
 .o 81 (.fa 2 (.t 4)),
 .s (.st 1 (.k 81) (.k 80))] false [4,8] [4,8])
 .skip))))))))))))))
 (.seq (.reg [] [.o 82 (.ld true 3 .tk (.k 4)),
 .s (.st 3 (.t 8) (.k 82)),
 .o 9 (.mv (.c (.b true)))] false [8,9] [8])
 .ret)))))⟩

def F_value_Of : F := ⟨3,[.inr (6,true,3),.inl 7],
 (.seq (.reg [] [.o 6 (.al ([.i .i64 0,.l .o 2 [],.i .i64 0])),
 .o 7 (.mv (.c (.i .i64 0)))] false [0,1,2,6] [6])
 (.seq (.seq (.reg [] [.o 12 (.mv (.t 0)),
 .o 13 (.mv (.t 1)),
 .o 14 (.call n_op_Legal [.k 12,.k 13]),
 .o 8 (.mv (.k 14))] false [0,1,2,6,8] [6])
 (.seq (.reg [] [.o 15 (.mv (.t 8)),
 .o 16 (.bin .neq (.k 15) (.c (.i .i64 0)))] false [0,1,2,6,8,16] [6])
 (.cond 16 (.seq (.reg [] [.o 17 (.bd ([.i .i64 0,.l .o 2 [],.i .i64 0]) []),
 .o 18 (.mv (.k 8)),
 .s (.st 3 (.t 6) (.k 17)),
 .o 7 (.mv (.k 18))] false [6,7] [6])
 .ret)
 .skip)))
 (.seq (.reg [] [.o 19 (.mv (.t 0)),
 .o 20 (.bd ([.i .i64 0,.l .o 2 [],.i .i64 0]) [(0,1,.k 19)]),
 .o 9 (.al ([.i .i64 0,.l .o 2 [],.i .i64 0])),
 .s (.st 3 (.t 9) (.k 20))] false [0,1,2,6,9] [6,9])
 (.seq (.seq (.reg [] [.o 21 (.mv (.k 0))] false [1,2,6,9,21] [6,9])
 (.blk 0 (.seq (.reg [] [.o 23 (.bin .eql (.t 21) (.c (.i .i64 1))),
 .o 22 (.mv (.k 23))] false [1,2,6,9,21,22] [6,9])
 (.cond 22 (.reg [] [.o 24 (.mv (.k 1)),
 .o 25 (.mv (.k 2)),
 .o 26 (.call n_value_bag [.k 24,.k 25]),
 .o 27 (.fa 1 (.t 9)),
 .s (.st 1 (.k 27) (.k 26))] false [6,9] [6,9])
 (.seq (.reg [] [.o 29 (.bin .eql (.t 21) (.c (.i .i64 2))),
 .o 28 (.mv (.k 29))] false [1,2,6,9,21,28] [6,9])
 (.cond 28 (.reg [] [.o 30 (.mv (.k 2)),
 .o 31 (.call n_value_line [.k 30]),
 .o 32 (.fa 1 (.t 9)),
 .s (.st 1 (.k 32) (.k 31))] false [6,9] [6,9])
 (.seq (.reg [] [.o 34 (.bin .eql (.t 21) (.c (.i .i64 3))),
 .o 33 (.mv (.k 34))] false [1,2,6,9,21,33] [6,9])
 (.cond 33 (.reg [] [.o 35 (.mv (.k 1)),
 .o 36 (.mv (.k 2)),
 .o 37 (.call n_value_sum [.c (.i .i64 0),.k 35,.k 36]),
 .o 38 (.fa 2 (.t 9)),
 .s (.st 1 (.k 38) (.k 37))] false [6,9] [6,9])
 (.seq (.reg [] [.o 40 (.bin .eql (.k 21) (.c (.i .i64 4))),
 .o 39 (.mv (.k 40))] false [1,2,6,9,39] [6,9])
 (.cond 39 (.seq (.reg [] [.o 42 (.mv (.t 1)),
 .o 43 (.callp n_net_New [.k 42]),
 .o 41 (.mv (.k 43)),
 .o 44 (.ex false 0 41),
 .o 45 (.ex false 1 41),
 .o 10 (.al ([.i .i64 0,.l .o 2 [],.l .o 1 []])),
 .s (.st 3 (.t 10) (.k 44)),
 .o 11 (.mv (.k 45))] false [1,2,6,9,10] [6,9,10])
 (.reg [] [.z 46 (.ld true 3 .tk (.k 10)) 2,
 .o 47 (.call n_net_Net_Out [.k 46,.c (.i .i64 0)]),
 .o 48 (.mv (.k 1)),
 .o 49 (.mv (.k 2)),
 .o 50 (.call n_value_sum [.k 47,.k 48,.k 49]),
 .o 51 (.fa 2 (.t 9)),
 .s (.st 1 (.k 51) (.k 50))] false [6,9] [6,9]))
 .skip))))))))))
 (.seq (.reg [] [.o 52 (.ld true 3 .tk (.k 9)),
 .s (.st 3 (.t 6) (.k 52)),
 .o 7 (.mv (.c (.i .i64 0)))] false [6,7] [6])
 .ret)))))⟩

def F_cell_New : F := ⟨0,[.inl 0],
 (.seq (.reg [] [.o 0 (.mv (.c (.nilp)))] false [] [])
 (.seq (.reg [] [.o 1 (.bd ([.l .x 3 [],.i .u64 0]) []),
 .o 2 (.bg (.k 1)),
 .o 0 (.mv (.k 2))] false [0] [])
 .ret))⟩

def F_c_ref06_Legal : F := ⟨2,[.inl 4],
 (.seq (.reg [] [.o 4 (.mv (.c (.i .i64 0)))] false [0,1] [])
 (.seq (.seq (.reg [] [.o 5 (.mv (.t 0)),
 .o 6 (.bin .lss (.k 5) (.c (.i .i64 1))),
 .o 7 (.mv (.k 6)),
 .c 7 false 8 (.mv (.t 0)),
 .c 7 false 9 (.bin .gtr (.k 8) (.c (.i .i64 4))),
 .o 10 (.pick (.k 7) (.c (.b true)) (.k 9))] false [0,1,10] [])
 (.cond 10 (.seq (.reg [] [.o 4 (.mv (.c (.i .i64 6)))] false [4] [])
 .ret)
 .skip))
 (.seq (.seq (.reg [] [.o 11 (.mv (.t 1)),
 .o 12 (.bin .lss (.k 11) (.c (.i .i64 1))),
 .o 13 (.mv (.k 12)),
 .c 13 false 14 (.mv (.t 1)),
 .c 13 false 15 (.bin .gtr (.k 14) (.c (.i .i64 16))),
 .o 16 (.pick (.k 13) (.c (.b true)) (.k 15))] false [0,1,16] [])
 (.cond 16 (.seq (.reg [] [.o 4 (.mv (.c (.i .i64 5)))] false [4] [])
 .ret)
 .skip))
 (.seq (.seq (.reg [] [.o 17 (.mv (.k 0)),
 .o 18 (.bin .eql (.k 17) (.c (.i .i64 4))),
 .o 19 (.mv (.k 18)),
 .c 19 true 20 (.mv (.t 1)),
 .c 19 true 21 (.bin .neq (.k 20) (.c (.i .i64 1))),
 .o 22 (.pick (.k 19) (.k 21) (.c (.b false))),
 .o 23 (.mv (.k 22)),
 .c 23 true 24 (.mv (.t 1)),
 .c 23 true 25 (.bin .neq (.k 24) (.c (.i .i64 2))),
 .o 26 (.pick (.k 23) (.k 25) (.c (.b false))),
 .o 27 (.mv (.k 26)),
 .c 27 true 28 (.mv (.t 1)),
 .c 27 true 29 (.bin .neq (.k 28) (.c (.i .i64 4))),
 .o 30 (.pick (.k 27) (.k 29) (.c (.b false))),
 .o 31 (.mv (.k 30)),
 .c 31 true 32 (.mv (.t 1)),
 .c 31 true 33 (.bin .neq (.k 32) (.c (.i .i64 8))),
 .o 34 (.pick (.k 31) (.k 33) (.c (.b false))),
 .o 35 (.mv (.k 34)),
 .c 35 true 36 (.mv (.k 1)),
 .c 35 true 37 (.bin .neq (.k 36) (.c (.i .i64 16))),
 .o 38 (.pick (.k 35) (.k 37) (.c (.b false)))] false [38] [])
 (.cond 38 (.seq (.reg [] [.o 4 (.mv (.c (.i .i64 5)))] false [4] [])
 .ret)
 .skip))
 (.seq (.reg [] [.o 4 (.mv (.c (.i .i64 0)))] false [4] [])
 .ret)))))⟩

def F_value_Value_Same : F := ⟨2,[.inl 4],
 (.seq (.reg [.zz 0,.zz 1] [.o 2 (.bx (.k 0)),
 .o 3 (.bx (.k 1)),
 .o 4 (.mv (.c (.b false)))] false [2,3] [2,3])
 (.seq (.reg [] [.o 5 (.fa 0 (.t 2)),
 .o 6 (.ld false 1 .cp (.k 5)),
 .o 7 (.fa 0 (.t 3)),
 .o 8 (.ld false 1 .cp (.k 7)),
 .o 9 (.bin .eql (.k 6) (.k 8)),
 .o 10 (.mv (.k 9)),
 .c 10 true 11 (.fa 2 (.t 2)),
 .c 10 true 12 (.ld false 1 .cp (.k 11)),
 .c 10 true 13 (.fa 2 (.t 3)),
 .c 10 true 14 (.ld false 1 .cp (.k 13)),
 .c 10 true 15 (.bin .eql (.k 12) (.k 14)),
 .o 16 (.pick (.k 10) (.k 15) (.c (.b false))),
 .o 17 (.mv (.k 16)),
 .c 17 true 18 (.fa 1 (.k 2)),
 ⟨some 19,some (17,true),.ld false 1 .tk (.k 18),[],2⟩,
 .c 17 true 20 (.fa 1 (.k 3)),
 ⟨some 21,some (17,true),.ld false 1 .tk (.k 20),[],2⟩,
 .c 17 true 22 (.call n_slices_EqualFunc_pile_Item_pile_Item_pile_Item_pile_Item_1 [.k 19,.k 21,.c (.fn n_value_Value_Same_1 [])]),
 .o 23 (.pick (.k 17) (.k 22) (.c (.b false))),
 .o 4 (.mv (.k 23))] false [4] [])
 .ret))⟩

def F_c_ref06_Check : F := ⟨3,[.inl 6],
 (.seq (.reg [] [.o 6 (.mv (.c (.i .i64 0)))] false [0,1,2] [])
 (.seq (.reg [] [.o 10 (.mv (.k 0)),
 .o 11 (.call n_c_ref06_Of [.k 10]),
 .o 9 (.mv (.k 11)),
 .o 12 (.ex false 0 9),
 .o 13 (.ex false 1 9),
 .o 7 (.mv (.k 12)),
 .o 8 (.mv (.k 13))] false [1,2,7,8] [])
 (.seq (.seq (.reg [] [.o 14 (.mv (.t 1)),
 .o 15 (.mv (.k 7)),
 .o 16 (.bin .lss (.k 14) (.k 15)),
 .o 17 (.mv (.k 16)),
 .c 17 false 18 (.mv (.t 1)),
 .c 17 false 19 (.mv (.k 8)),
 .c 17 false 20 (.bin .gtr (.k 18) (.k 19)),
 .o 21 (.pick (.k 17) (.c (.b true)) (.k 20))] false [1,2,21] [])
 (.cond 21 (.seq (.reg [] [.o 6 (.mv (.c (.i .i64 6)))] false [6] [])
 .ret)
 .skip))
 (.seq (.seq (.reg [] [.o 22 (.mv (.k 1)),
 .o 23 (.bin .eql (.k 22) (.c (.i .i64 5))),
 .o 24 (.mv (.k 23)),
 .c 24 true 25 (.mv (.t 2)),
 .c 24 true 26 (.bin .lss (.k 25) (.c (.i .i64 0))),
 .c 24 true 27 (.mv (.k 26)),
 .c 27 false 28 (.mv (.k 2)),
 .c 27 false 29 (.bin .gtr (.k 28) (.c (.i .i64 4294967296))),
 .c 24 true 30 (.pick (.k 27) (.c (.b true)) (.k 29)),
 .o 31 (.pick (.k 24) (.k 30) (.c (.b false)))] false [31] [])
 (.cond 31 (.seq (.reg [] [.o 6 (.mv (.c (.i .i64 4)))] false [6] [])
 .ret)
 .skip))
 (.seq (.reg [] [.o 6 (.mv (.c (.i .i64 0)))] false [6] [])
 .ret)))))⟩

def F_c_ref12_Same : F := ⟨2,[.inl 4],
 (.seq (.reg [.zz 0,.zz 1] [.o 2 (.bx (.k 0)),
 .o 3 (.bx (.k 1)),
 .o 4 (.mv (.c (.i .i64 0)))] false [2,3] [2,3])
 (.seq (.seq (.reg [] [.o 6 (.fa 0 (.t 2)),
 .o 7 (.ld false 1 .cp (.k 6)),
 .o 8 (.fa 0 (.t 3)),
 .o 9 (.ld false 1 .cp (.k 8)),
 .o 10 (.bin .neq (.k 7) (.k 9)),
 .o 11 (.mv (.k 10)),
 .c 11 false 12 (.fa 2 (.t 2)),
 .c 11 false 13 (.ld false 1 .cp (.k 12)),
 .c 11 false 14 (.fa 2 (.t 3)),
 .c 11 false 15 (.ld false 1 .cp (.k 14)),
 .c 11 false 16 (.bin .neq (.k 13) (.k 15)),
 .o 17 (.pick (.k 11) (.c (.b true)) (.k 16)),
 .o 18 (.mv (.k 17)),
 .c 18 false 19 (.fa 1 (.t 2)),
 .c 18 false 20 (.ld false 1 .cp (.k 19)),
 .c 18 false 21 (.len false (.k 20)),
 .c 18 false 22 (.fa 1 (.t 3)),
 .c 18 false 23 (.ld false 1 .cp (.k 22)),
 .c 18 false 24 (.len false (.k 23)),
 .c 18 false 25 (.bin .neq (.k 21) (.k 24)),
 .o 26 (.pick (.k 18) (.c (.b true)) (.k 25))] false [2,3,26] [2,3])
 (.cond 26 (.seq (.reg [] [.o 4 (.mv (.c (.i .i64 (-1))))] false [4] [])
 .ret)
 .skip))
 (.seq (.seq (.reg [] [.o 27 (.fa 1 (.t 2)),
 .o 28 (.ld false 1 .cp (.k 27)),
 .o 29 (.len false (.k 28)),
 .o 30 (.mv (.c (.i .i64 0)))] false [2,3,29,30] [2,3])
 (.blk 0 (.loop (.seq (.reg [] [.o 31 (.bin .lss (.t 30) (.t 29))] false [2,3,29,30,31] [2,3])
 (.seq (.cond 31 .skip
 (.exit 0))
 (.seq (.blk 1 (.seq (.reg [] [.o 32 (.mv (.t 30)),
 .o 5 (.mv (.k 32))] false [2,3,5,29,30] [2,3])
 (.seq (.reg [] [.o 33 (.fa 1 (.t 2)),
 .o 34 (.ld false 1 .cp (.k 33)),
 .u 35 (.mv (.t 5)) [0,1] 0,
 .o 36 (.ia 2 none (.k 34) (.k 35)),
 .o 37 (.ld true 2 .cp (.k 36)),
 .u 38 (.fa 1 (.t 3)) [0,1,2,3,4] 0,
 .u 39 (.ld false 1 .cp (.k 38)) [0,1,2,3,4] 0,
 .u 40 (.mv (.t 5)) [0,1,2,3,4,5,6] 0,
 .u 41 (.ia 2 none (.k 39) (.k 40)) [0,1,2,3,4] 0,
 .u 42 (.ld true 2 .cp (.k 41)) [0,1,2,3,4] 0,
 .o 43 (.call n_c_ref12_same [.k 37,.k 42]),
 .o 44 (.un .not (.k 43))] true [2,3,29,30,44] [2,3])
 (.cond 44 (.seq (.reg [] [.o 4 (.mv (.c (.i .i64 (-1))))] false [4] [])
 .ret)
 .skip))))
 (.reg [] [.o 45 (.bin .add (.k 30) (.c (.i .i64 1))),
 .o 30 (.mv (.k 45))] false [2,3,29,30] [2,3])))))))
 (.seq (.reg [] [.o 4 (.mv (.c (.i .i64 0)))] false [4] [])
 .ret))))⟩

def F_c_ref06_Of : F := ⟨1,[.inl 2,.inl 3],
 (.seq (.reg [] [.o 2 (.mv (.c (.i .i64 0))),
 .o 3 (.mv (.c (.i .i64 0)))] false [0] [])
 (.seq (.seq (.reg [] [.o 4 (.mv (.k 0))] false [4] [])
 (.blk 0 (.seq (.reg [] [.o 6 (.bin .eql (.t 4) (.c (.i .i64 1))),
 .o 5 (.mv (.k 6))] false [4,5] [])
 (.cond 5 (.seq (.reg [] [.o 2 (.mv (.c (.i .i64 1))),
 .o 3 (.mv (.c (.i .i64 2)))] false [2,3] [])
 .ret)
 (.seq (.reg [] [.o 8 (.bin .eql (.t 4) (.c (.i .i64 2))),
 .o 7 (.mv (.k 8))] false [4,7] [])
 (.cond 7 (.seq (.reg [] [.o 2 (.mv (.c (.i .i64 3))),
 .o 3 (.mv (.c (.i .i64 4)))] false [2,3] [])
 .ret)
 (.seq (.reg [] [.o 10 (.bin .eql (.t 4) (.c (.i .i64 3))),
 .o 9 (.mv (.k 10))] false [4,9] [])
 (.cond 9 (.seq (.reg [] [.o 2 (.mv (.c (.i .i64 5))),
 .o 3 (.mv (.c (.i .i64 6)))] false [2,3] [])
 .ret)
 (.seq (.reg [] [.o 12 (.bin .eql (.k 4) (.c (.i .i64 4))),
 .o 11 (.mv (.k 12))] false [11] [])
 (.cond 11 (.seq (.reg [] [.o 2 (.mv (.c (.i .i64 7))),
 .o 3 (.mv (.c (.i .i64 7)))] false [2,3] [])
 .ret)
 .skip))))))))))
 (.seq (.reg [] [.o 2 (.mv (.c (.i .i64 0))),
 .o 3 (.mv (.c (.i .i64 (-1))))] false [2,3] [])
 .ret)))⟩

def F_cell_Memory_Read : F := ⟨2,[.inr (4,true,3)],
 (.seq (.reg [] [.o 4 (.al ([.i .u64 0,.i .i64 0,.l .o 2 []]))] false [0,1,4] [4])
 (.seq (.seq (.reg [] [.o 6 (.mv (.t 1)),
 .o 7 (.bin .lss (.k 6) (.c (.i .i64 0))),
 .o 8 (.mv (.k 7)),
 .c 8 false 9 (.mv (.t 1)),
 .c 8 false 10 (.mv (.t 0)),
 .c 8 false 11 (.nc (.k 10)),
 .c 8 false 12 (.fa 0 (.k 11)),
 ⟨some 13,some (8,false),.lda 1 (.k 12),[],1⟩,
 .c 8 false 14 (.len false (.k 13)),
 .c 8 false 15 (.bin .geq (.k 9) (.k 14)),
 .o 16 (.pick (.k 8) (.c (.b true)) (.k 15))] false [0,1,4,16] [4])
 (.cond 16 (.seq (.reg [] [.o 17 (.bd ([.i .u64 0,.i .i64 0,.l .o 2 []]) []),
 .s (.st 3 (.t 4) (.k 17))] false [4] [4])
 .ret)
 .skip))
 (.seq (.reg [] [.o 18 (.mv (.k 0)),
 .o 19 (.nc (.k 18)),
 .o 20 (.fa 0 (.k 19)),
 .z 21 (.lda 1 (.k 20)) 1,
 .o 22 (.mv (.k 1)),
 .o 23 (.ia 3 none (.k 21) (.k 22)),
 .o 24 (.ld true 3 .cp (.k 23)),
 .o 5 (.al ([.i .u64 0,.i .i64 0,.l .o 2 []])),
 .s (.st 3 (.t 5) (.k 24))] false [4,5] [4,5])
 (.seq (.reg [] [.o 25 (.fa 0 (.t 5)),
 .o 26 (.ld false 1 .cp (.k 25)),
 .u 27 (.fa 1 (.t 5)) [0,1] 0,
 .u 28 (.ld true 2 .cp (.k 27)) [0,1] 2,
 .u 29 (.call n_cell_Value_Clone [.k 28]) [0,1] 0,
 .o 30 (.bd ([.i .u64 0,.i .i64 0,.l .o 2 []]) [(0,1,.k 26),(1,2,.k 29)]),
 .s (.st 3 (.t 4) (.k 30))] true [4] [4])
 .ret))))⟩

def F_c_law03_F : F := ⟨1,[.inl 2],
 (.seq (.reg [] [.o 2 (.mv (.c (.f .f64 0)))] false [0] [])
 (.seq (.reg [] [.o 3 (.mv (.k 0)),
 .o 4 (.frbits (.k 3)),
 .o 2 (.mv (.k 4))] false [2] [])
 .ret))⟩

def F_real_Canon : F := ⟨1,[.inl 2],
 (.seq (.reg [] [.o 2 (.mv (.c (.f .f64 0)))] false [0] [])
 (.seq (.seq (.reg [] [.o 3 (.mv (.t 0)),
 .o 4 (.mv (.t 0)),
 .o 5 (.bin .neq (.k 3) (.k 4))] false [0,5] [])
 (.cond 5 (.seq (.reg [] [.o 6 (.frbits (.c (.i .u64 9221120237041090560))),
 .o 2 (.mv (.k 6))] false [2] [])
 .ret)
 .skip))
 (.seq (.reg [] [.o 7 (.mv (.k 0)),
 .o 2 (.mv (.k 7))] false [2] [])
 .ret)))⟩

def F_pile_New : F := ⟨1,[.inl 2],
 (.seq (.reg [.zz 0] [.o 2 (.mv (.c (.nilp)))] false [0] [])
 (.seq (.reg [] [.o 6 (.bd ([.l .x 2 []]) []),
 .o 7 (.bg (.k 6)),
 .o 3 (.mv (.k 7))] false [0,3] [])
 (.seq (.seq (.reg [] [.o 8 (.mv (.k 0)),
 .o 9 (.len false (.t 8)),
 .o 10 (.mv (.c (.i .i64 0)))] false [3,8,9,10] [])
 (.blk 0 (.loop (.seq (.reg [] [.o 11 (.bin .lss (.t 10) (.t 9))] false [3,8,9,10,11] [])
 (.seq (.cond 11 .skip
 (.exit 0))
 (.seq (.blk 1 (.seq (.reg [] [.o 12 (.ia 2 none (.t 8) (.t 10)),
 .o 13 (.ld true 2 .cp (.k 12)),
 .o 5 (.al ([.f .f64 0,.i .i64 0])),
 .s (.st 2 (.t 5) (.k 13))] false [3,5,8,9,10] [5])
 (.reg [] [.o 14 (.mv (.t 3)),
 .u 15 (.mv (.t 3)) [0] 0,
 .u 16 (.nc (.k 15)) [0] 0,
 .u 17 (.fa 0 (.k 16)) [0] 0,
 .u 18 (.ld false 1 .tk (.k 17)) [0] 0,
 .u 19 (.ld true 2 .cp (.k 5)) [0,1,2,3,4] 0,
 .u 20 (.callp n_pile_Item_Canon [.k 19]) [0,1,2,3,4] 0,
 .u 21 (.bs 2 1 (.a ([.f .f64 0,.i .i64 0])) [(0,.k 20)]) [0,1,2,3,4] 0,
 .u 22 (.app 2 16 (.k 18) (.k 21)) [0] 0,
 .o 23 (.nc (.k 14)),
 .o 24 (.fa 0 (.k 23)),
 .s (.st 1 (.k 24) (.k 22))] true [3,8,9,10] [])))
 (.reg [] [.o 25 (.bin .add (.k 10) (.c (.i .i64 1))),
 .o 10 (.mv (.k 25))] false [3,8,9,10] [])))))))
 (.seq (.reg [] [.o 26 (.mv (.t 3)),
 .o 27 (.nc (.k 26)),
 .o 28 (.fa 0 (.k 27)),
 .o 29 (.mi t_pile_items_u (.k 28)),
 .o 30 (.call n_container_heap_Init [.k 29])] false [3] [])
 (.seq (.reg [] [.o 31 (.mv (.k 3)),
 .o 2 (.mv (.k 31))] false [2] [])
 .ret)))))⟩

def F_pile_Pile_All : F := ⟨1,[.inl 2],
 (.seq (.reg [] [.o 2 (.mv (.c (.l .o 2 [])))] false [0] [])
 (.seq (.reg [] [.o 7 (.bs 2 0 (.a ([.f .f64 0,.i .i64 0])) []),
 .o 8 (.mv (.k 0)),
 .o 9 (.nc (.k 8)),
 .o 10 (.fa 0 (.k 9)),
 .z 11 (.lda 1 (.k 10)) 1,
 .o 12 (.app 2 16 (.k 7) (.k 11)),
 .o 13 (.bd ([.l .x 2 []]) [(0,1,.k 12)]),
 .o 14 (.bg (.k 13)),
 .o 3 (.mv (.k 14))] false [3] [])
 (.seq (.reg [] [.o 4 (.mv (.c (.l .o 2 [])))] false [3,4] [])
 (.blk 0 (.loop (.blk 1 (.seq (.reg [] [.o 16 (.mv (.t 3)),
 .o 17 (.call n_pile_Pile_Take [.k 16]),
 .o 15 (.mv (.k 17)),
 .o 18 (.ex false 0 15),
 .o 19 (.ex false 1 15),
 .o 5 (.al ([.f .f64 0,.i .i64 0])),
 .s (.st 2 (.t 5) (.k 18)),
 .o 6 (.mv (.k 19))] false [3,4,5,6] [5])
 (.seq (.seq (.reg [] [.o 20 (.mv (.k 6)),
 .o 21 (.un .not (.k 20))] false [3,4,5,21] [5])
 (.cond 21 (.seq (.reg [] [.o 22 (.mv (.k 4)),
 .o 2 (.mv (.k 22))] false [2] [])
 .ret)
 .skip))
 (.reg [] [.o 23 (.mv (.k 4)),
 .o 24 (.ld true 2 .cp (.k 5)),
 .o 25 (.bs 2 1 (.a ([.f .f64 0,.i .i64 0])) [(0,.k 24)]),
 .z 26 (.app 2 16 (.k 23) (.k 25)) 1,
 .o 4 (.mv (.k 26))] false [3,4] [])))))))))⟩

def F_c_law04_Bits : F := ⟨1,[.inl 2],
 (.seq (.reg [] [.o 1 (.bx (.k 0)),
 .o 2 (.mv (.c (.i .u64 0)))] false [1] [1])
 (.seq (.reg [] [.o 3 (.fa 0 (.k 1)),
 .o 4 (.ld false 1 .cp (.k 3)),
 .o 5 (.bits (.k 4)),
 .o 6 (.call n_c_ref03_Bits [.k 5]),
 .o 2 (.mv (.k 6))] false [2] [])
 .ret))⟩

def F_op_Op_Check : F := ⟨2,[.inl 4],
 (.seq (.reg [] [.o 2 (.bx (.k 0)),
 .o 4 (.mv (.c (.i .i64 0)))] false [1,2] [2])
 (.seq (.seq (.reg [] [.o 7 (.mv (.k 1)),
 .o 8 (.call n_op_Of [.k 7]),
 .o 9 (.len false (.t 8)),
 .o 10 (.mv (.c (.i .i64 0)))] false [2,8,9,10] [2])
 (.blk 0 (.loop (.seq (.reg [] [.o 11 (.bin .lss (.t 10) (.t 9))] false [2,8,9,10,11] [2])
 (.seq (.cond 11 .skip
 (.exit 0))
 (.seq (.blk 1 (.seq (.reg [] [.o 12 (.ia 1 none (.t 8) (.t 10)),
 .o 13 (.ld false 1 .cp (.k 12)),
 .o 6 (.mv (.k 13))] false [2,6,8,9,10] [2])
 (.seq (.seq (.reg [] [.o 14 (.mv (.t 6)),
 .o 15 (.fa 0 (.t 2)),
 .o 16 (.ld false 1 .cp (.k 15)),
 .o 17 (.bin .neq (.k 14) (.k 16))] false [2,6,8,9,10,17] [2])
 (.cond 17 (.exit 1)
 .skip))
 (.seq (.seq (.reg [] [.o 18 (.mv (.k 6)),
 .o 19 (.bin .eql (.k 18) (.c (.i .i64 5))),
 .o 20 (.mv (.k 19)),
 .c 20 true 21 (.fa 1 (.t 2)),
 .c 20 true 22 (.fa 1 (.k 21)),
 .c 20 true 23 (.ld false 1 .cp (.k 22)),
 .c 20 true 24 (.bin .lss (.k 23) (.c (.i .i64 0))),
 .c 20 true 25 (.mv (.k 24)),
 .c 25 false 26 (.fa 1 (.k 2)),
 .c 25 false 27 (.fa 1 (.k 26)),
 .c 25 false 28 (.ld false 1 .cp (.k 27)),
 .c 25 false 29 (.bin .gtr (.k 28) (.c (.i .i64 4294967296))),
 .c 20 true 30 (.pick (.k 25) (.c (.b true)) (.k 29)),
 .o 31 (.pick (.k 20) (.k 30) (.c (.b false)))] false [31] [])
 (.cond 31 (.seq (.reg [] [.o 4 (.mv (.c (.i .i64 4)))] false [4] [])
 .ret)
 .skip))
 (.seq (.reg [] [.o 4 (.mv (.c (.i .i64 0)))] false [4] [])
 .ret)))))
 (.reg [] [.o 32 (.bin .add (.k 10) (.c (.i .i64 1))),
 .o 10 (.mv (.k 32))] false [2,8,9,10] [2])))))))
 (.seq (.reg [] [.o 4 (.mv (.c (.i .i64 6)))] false [4] [])
 .ret)))⟩

def F_value_Value_without : F := ⟨3,[.inr (6,true,3),.inl 7],
 (.seq (.reg [.zz 0] [.o 3 (.bx (.k 0)),
 .o 4 (.bg (.k 1)),
 .o 6 (.al ([.i .i64 0,.l .o 2 [],.i .i64 0])),
 .o 7 (.mv (.c (.b false)))] false [2,3,4,6] [3,6])
 (.seq (.reg [] [.o 9 (.fa 1 (.t 3)),
 .z 10 (.ld false 1 .cp (.k 9)) 2,
 .o 11 (.mf n_value_Value_without_1 [.k 4]),
 .o 12 (.call n_slices_IndexFunc_pile_Item_pile_Item [.k 10,.k 11]),
 .o 8 (.mv (.k 12))] false [2,3,6,8] [3,6])
 (.seq (.seq (.reg [] [.o 13 (.mv (.t 8)),
 .o 14 (.bin .lss (.k 13) (.c (.i .i64 0))),
 .o 15 (.mv (.k 14)),
 .c 15 false 16 (.mv (.t 8)),
 .c 15 false 17 (.mv (.k 2)),
 .c 15 false 18 (.bin .geq (.k 16) (.k 17)),
 .o 19 (.pick (.k 15) (.c (.b true)) (.k 18))] false [3,6,8,19] [3,6])
 (.cond 19 (.seq (.reg [] [.o 20 (.ld true 3 .tk (.k 3)),
 .s (.st 3 (.t 6) (.k 20)),
 .o 7 (.mv (.c (.b false)))] false [6,7] [6])
 .ret)
 .skip))
 (.seq (.reg [] [.o 21 (.fa 1 (.t 3)),
 .z 22 (.ld false 1 .cp (.k 21)) 2,
 .o 23 (.call n_slices_Clone_pile_Item_pile_Item [.k 22]),
 .o 24 (.mv (.t 8)),
 .o 25 (.mv (.k 8)),
 .o 26 (.bin .add (.k 25) (.c (.i .i64 1))),
 .z 27 (.call n_slices_Delete_pile_Item_pile_Item [.k 23,.k 24,.k 26]) 1,
 .o 28 (.fa 1 (.t 3)),
 .s (.st 1 (.k 28) (.k 27))] false [3,6] [3,6])
 (.seq (.reg [] [.o 29 (.ld true 3 .tk (.k 3)),
 .s (.st 3 (.t 6) (.k 29)),
 .o 7 (.mv (.c (.b true)))] false [6,7] [6])
 .ret)))))⟩

def F_c_ref12_same : F := ⟨2,[.inl 4],
 (.seq (.reg [] [.o 2 (.bx (.k 0)),
 .o 3 (.bx (.k 1)),
 .o 4 (.mv (.c (.b false)))] false [2,3] [2,3])
 (.seq (.reg [] [.o 5 (.ld true 2 .cp (.k 2)),
 .o 6 (.ld true 2 .cp (.k 3)),
 .o 7 (.call n_c_ref04_Cmp [.k 5,.k 6]),
 .o 8 (.bin .eql (.k 7) (.c (.i .i64 0))),
 .o 4 (.mv (.k 8))] false [4] [])
 .ret))⟩

def F_op_Legal : F := ⟨2,[.inl 4],
 (.seq (.reg [] [.o 4 (.mv (.c (.i .i64 0)))] false [0,1] [])
 (.seq (.blk 0 (.seq (.reg [] [.o 6 (.mv (.t 0)),
 .o 7 (.bin .lss (.k 6) (.c (.i .i64 1))),
 .o 8 (.mv (.k 7)),
 .c 8 false 9 (.mv (.t 0)),
 .c 8 false 10 (.bin .gtr (.k 9) (.c (.i .i64 4))),
 .o 11 (.pick (.k 8) (.c (.b true)) (.k 10)),
 .o 5 (.mv (.k 11))] false [0,1,5] [])
 (.cond 5 (.seq (.reg [] [.o 4 (.mv (.c (.i .i64 6)))] false [4] [])
 .ret)
 (.seq (.reg [] [.o 13 (.mv (.t 1)),
 .o 14 (.bin .lss (.k 13) (.c (.i .i64 1))),
 .o 15 (.mv (.k 14)),
 .c 15 false 16 (.mv (.t 1)),
 .c 15 false 17 (.bin .gtr (.k 16) (.c (.i .i64 16))),
 .o 18 (.pick (.k 15) (.c (.b true)) (.k 17)),
 .o 19 (.mv (.k 18)),
 .c 19 false 20 (.mv (.k 0)),
 .c 19 false 21 (.bin .eql (.k 20) (.c (.i .i64 4))),
 .c 19 false 22 (.mv (.k 21)),
 .c 22 true 23 (.mv (.t 1)),
 .c 22 true 24 (.mv (.k 1)),
 .c 22 true 25 (.bin .sub (.k 24) (.c (.i .i64 1))),
 .c 22 true 26 (.bin .and (.k 23) (.k 25)),
 .c 22 true 27 (.bin .neq (.k 26) (.c (.i .i64 0))),
 .c 19 false 28 (.pick (.k 22) (.k 27) (.c (.b false))),
 .o 29 (.pick (.k 19) (.c (.b true)) (.k 28)),
 .o 12 (.mv (.k 29))] false [12] [])
 (.cond 12 (.seq (.reg [] [.o 4 (.mv (.c (.i .i64 5)))] false [4] [])
 .ret)
 .skip)))))
 (.seq (.reg [] [.o 4 (.mv (.c (.i .i64 0)))] false [4] [])
 .ret)))⟩

def F_value_bag : F := ⟨2,[.inl 4],
 (.seq (.reg [] [.o 4 (.mv (.c (.l .o 2 [])))] false [0,1] [])
 (.seq (.reg [] [.o 5 (.mv (.c (.l .o 2 [])))] false [0,1,5] [])
 (.seq (.seq (.reg [] [.o 7 (.mv (.k 0)),
 .o 8 (.mv (.c (.i .i64 0)))] false [1,5,7,8] [])
 (.blk 0 (.loop (.seq (.reg [] [.o 9 (.bin .lss (.t 8) (.t 7))] false [1,5,7,8,9] [])
 (.seq (.cond 9 .skip
 (.exit 0))
 (.seq (.blk 1 (.seq (.reg [] [.o 10 (.mv (.t 8)),
 .o 6 (.mv (.k 10))] false [1,5,6,7,8] [])
 (.reg [] [.o 11 (.mv (.k 5)),
 .o 12 (.mv (.t 1)),
 .o 13 (.mv (.k 6)),
 .o 14 (.call n_cell_Memory_Read [.k 12,.k 13]),
 .o 15 (.fd true 1 2 (.k 14)),
 .o 16 (.fd false 1 1 (.k 15)),
 .z 17 (.app 2 16 (.k 11) (.k 16)) 1,
 .o 5 (.mv (.k 17))] false [1,5,7,8] [])))
 (.reg [] [.o 18 (.bin .add (.k 8) (.c (.i .i64 1))),
 .o 8 (.mv (.k 18))] false [1,5,7,8] [])))))))
 (.seq (.reg [] [.z 19 (.mv (.k 5)) 2,
 .o 20 (.call n_pile_Sorted [.k 19]),
 .o 4 (.mv (.k 20))] false [4] [])
 .ret))))⟩

def F_value_line : F := ⟨1,[.inl 2],
 (.seq (.reg [] [.o 2 (.mv (.c (.l .o 2 [])))] false [0] [])
 (.seq (.reg [] [.o 3 (.mv (.c (.l .x 3 [])))] false [0,3] [3])
 (.seq (.seq (.reg [] [.o 4 (.mv (.c (.i .i64 2)))] false [0,3,4] [3])
 (.blk 0 (.loop (.seq (.seq (.reg [] [.o 9 (.mv (.t 4)),
 .o 10 (.mv (.t 0)),
 .o 11 (.call n_cell_Memory_Len [.k 10]),
 .o 12 (.bin .lss (.k 9) (.k 11))] false [0,3,4,12] [3])
 (.cond 12 .skip
 (.exit 0)))
 (.seq (.blk 1 (.seq (.reg [] [.o 15 (.mv (.t 0)),
 .o 16 (.mv (.t 4)),
 .o 17 (.call n_cell_Memory_Read [.k 15,.k 16]),
 .o 5 (.al ([.i .u64 0,.i .i64 0,.l .o 2 []])),
 .s (.st 3 (.t 5) (.k 17))] false [0,3,4,5] [3,5])
 (.seq (.reg [] [.o 18 (.fa 1 (.t 5)),
 .o 19 (.fa 0 (.k 18)),
 .o 20 (.ld false 1 .cp (.k 19)),
 .o 21 (.bin .eql (.k 20) (.c (.i .i64 1)))] false [0,3,4,5,21] [3,5])
 (.cond 21 (.reg [.unth 3] [.o 22 (.mv (.k 3)),
 .o 23 (.ld true 3 .tk (.k 5)),
 .o 24 (.bs 3 1 (.a ([.i .u64 0,.i .i64 0,.l .o 2 []])) [(0,.k 23)]),
 .o 25 (.app 3 40 (.k 22) (.k 24)),
 .o 3 (.mv (.k 25))] false [0,3,4] [3])
 .skip))))
 (.reg [] [.o 13 (.mv (.k 4)),
 .o 14 (.bin .add (.k 13) (.c (.i .i64 1))),
 .o 4 (.mv (.k 14))] false [0,3,4] [3]))))))
 (.seq (.reg [.thaw 3] [.z 26 (.mv (.t 3)) 2,
 .o 27 (.srt n_slices_SortFunc_cell_Cell_cell_Cell n_value_line_1 (.k 26))] false [3] [3])
 (.seq (.reg [] [.o 6 (.mv (.c (.l .o 2 [])))] false [3,6] [3])
 (.seq (.seq (.reg [.unth 3] [.z 28 (.mv (.k 3)) 1,
 .o 29 (.len false (.t 28)),
 .o 30 (.mv (.c (.i .i64 0)))] false [6,28,29,30] [])
 (.blk 2 (.loop (.seq (.reg [] [.o 31 (.bin .lss (.t 30) (.t 29))] false [6,28,29,30,31] [])
 (.seq (.cond 31 .skip
 (.exit 2))
 (.seq (.blk 3 (.seq (.reg [] [.o 32 (.ia 3 none (.t 28) (.t 30)),
 .o 33 (.ld true 3 .cp (.k 32)),
 .o 8 (.al ([.i .u64 0,.i .i64 0,.l .o 2 []])),
 .s (.st 3 (.t 8) (.k 33))] false [6,8,28,29,30] [8])
 (.reg [] [.o 34 (.mv (.k 6)),
 .o 35 (.fa 1 (.k 8)),
 .o 36 (.fa 1 (.k 35)),
 .o 37 (.ld false 1 .tk (.k 36)),
 .z 38 (.app 2 16 (.k 34) (.k 37)) 1,
 .o 6 (.mv (.k 38))] false [6,28,29,30] [])))
 (.reg [] [.o 39 (.bin .add (.k 30) (.c (.i .i64 1))),
 .o 30 (.mv (.k 39))] false [6,28,29,30] [])))))))
 (.seq (.reg [] [.o 40 (.mv (.k 6)),
 .o 2 (.mv (.k 40))] false [2] [])
 .ret)))))))⟩

def F_value_sum : F := ⟨3,[.inl 6],
 (.seq (.reg [] [.o 6 (.mv (.c (.i .i64 0)))] false [0,1,2] [])
 (.seq (.reg [] [.o 7 (.mv (.c (.i .i64 0)))] false [0,1,2,7] [])
 (.seq (.seq (.reg [] [.o 9 (.mv (.k 1)),
 .o 10 (.mv (.c (.i .i64 0)))] false [0,2,7,9,10] [])
 (.blk 0 (.loop (.seq (.reg [] [.o 11 (.bin .lss (.t 10) (.t 9))] false [0,2,7,9,10,11] [])
 (.seq (.cond 11 .skip
 (.exit 0))
 (.seq (.blk 1 (.seq (.reg [] [.o 12 (.mv (.t 10)),
 .o 8 (.mv (.k 12))] false [0,2,7,8,9,10] [])
 (.reg [] [.o 13 (.mv (.k 7)),
 .o 14 (.mv (.t 2)),
 .o 15 (.mv (.t 0)),
 .o 16 (.mv (.k 8)),
 .o 17 (.bin .add (.k 15) (.k 16)),
 .o 18 (.call n_cell_Memory_Read [.k 14,.k 17]),
 .o 19 (.fd true 1 2 (.k 18)),
 .o 20 (.fd false 0 1 (.k 19)),
 .o 21 (.bin .add (.k 13) (.k 20)),
 .o 7 (.mv (.k 21))] false [0,2,7,9,10] [])))
 (.reg [] [.o 22 (.bin .add (.k 10) (.c (.i .i64 1))),
 .o 10 (.mv (.k 22))] false [0,2,7,9,10] [])))))))
 (.seq (.reg [] [.o 23 (.mv (.k 7)),
 .o 6 (.mv (.k 23))] false [6] [])
 .ret))))⟩

def F_net_New : F := ⟨1,[.inr (2,true,3),.inl 3],
 (.seq (.reg [] [.o 2 (.al ([.i .i64 0,.l .o 2 [],.l .o 1 []])),
 .o 3 (.mv (.c (.i .i64 0)))] false [0,2] [2])
 (.seq (.reg [] [.o 7 (.mv (.k 0)),
 .o 8 (.call n_wire_Make [.k 7]),
 .o 6 (.mv (.k 8)),
 .o 9 (.ex false 0 6),
 .o 10 (.ex false 1 6),
 .o 4 (.al ([.i .i64 0,.l .o 2 [],.l .o 1 []])),
 .s (.st 3 (.t 4) (.k 9)),
 .o 5 (.mv (.k 10))] false [2,4,5] [2,4])
 (.seq (.reg [] [.o 11 (.ld true 3 .tk (.k 4)),
 .o 12 (.bd ([.i .i64 0,.l .o 2 [],.l .o 1 []]) [(0,3,.k 11)]),
 .o 13 (.mv (.k 5)),
 .s (.st 3 (.t 2) (.k 12)),
 .o 3 (.mv (.k 13))] false [2,3] [2])
 .ret)))⟩

def F_net_Net_Out : F := ⟨2,[.inl 4],
 (.seq (.reg [.zz 0] [.o 2 (.bx (.k 0)),
 .o 4 (.mv (.c (.i .i64 0)))] false [1,2] [2])
 (.seq (.reg [] [.o 5 (.fa 0 (.k 2)),
 .o 6 (.fa 1 (.k 5)),
 .o 7 (.ld false 1 .tk (.k 6)),
 .o 8 (.len false (.k 7)),
 .o 9 (.mv (.k 1)),
 .o 10 (.bin .add (.k 8) (.k 9)),
 .o 4 (.mv (.k 10))] false [4] [])
 .ret))⟩

def F_slices_EqualFunc_pile_Item_pile_Item_pile_Item_pile_Item_1 : F := ⟨3,[.inl 6],
 (.seq (.reg [.zz 0,.zz 1] [.o 6 (.mv (.c (.b false)))] false [0,1,2] [])
 (.seq (.seq (.reg [] [.o 10 (.mv (.t 0)),
 .o 11 (.len false (.k 10)),
 .o 12 (.mv (.t 1)),
 .o 13 (.len false (.k 12)),
 .o 14 (.bin .neq (.k 11) (.k 13))] false [0,1,2,14] [])
 (.cond 14 (.seq (.reg [] [.o 6 (.mv (.c (.b false)))] false [6] [])
 .ret)
 .skip))
 (.seq (.seq (.reg [] [.o 15 (.mv (.k 0)),
 .o 16 (.len false (.t 15)),
 .o 17 (.mv (.c (.i .i64 0)))] false [1,2,15,16,17] [])
 (.blk 0 (.loop (.seq (.reg [] [.o 18 (.bin .lss (.t 17) (.t 16))] false [1,2,15,16,17,18] [])
 (.seq (.cond 18 .skip
 (.exit 0))
 (.seq (.blk 1 (.seq (.reg [] [.o 19 (.mv (.t 17)),
 .o 20 (.ia 2 none (.t 15) (.t 17)),
 .o 21 (.ld true 2 .cp (.k 20)),
 .o 8 (.al ([.f .f64 0,.i .i64 0])),
 .o 7 (.mv (.k 19)),
 .s (.st 2 (.t 8) (.k 21))] false [1,2,7,8,15,16,17] [8])
 (.seq (.reg [] [.o 22 (.mv (.t 1)),
 .o 23 (.mv (.k 7)),
 .o 24 (.ia 2 none (.k 22) (.k 23)),
 .o 25 (.ld true 2 .cp (.k 24)),
 .o 9 (.al ([.f .f64 0,.i .i64 0])),
 .s (.st 2 (.t 9) (.k 25))] false [1,2,8,9,15,16,17] [8,9])
 (.seq (.reg [] [.o 26 (.mv (.t 2)),
 .o 27 (.ld true 2 .cp (.k 8)),
 .o 28 (.ld true 2 .cp (.k 9)),
 .o 29 (.callv (.k 26) [.k 27,.k 28]),
 .o 30 (.un .not (.k 29))] false [1,2,15,16,17,30] [])
 (.cond 30 (.seq (.reg [] [.o 6 (.mv (.c (.b false)))] false [6] [])
 .ret)
 .skip)))))
 (.reg [] [.o 31 (.bin .add (.k 17) (.c (.i .i64 1))),
 .o 17 (.mv (.k 31))] false [1,2,15,16,17] [])))))))
 (.seq (.reg [] [.o 6 (.mv (.c (.b true)))] false [6] [])
 .ret))))⟩

def F_value_Value_Same_1 : F := ⟨2,[.inl 4],
 (.seq (.reg [] [.o 2 (.bx (.k 0)),
 .o 3 (.bx (.k 1)),
 .o 4 (.mv (.c (.b false)))] false [2,3] [2,3])
 (.seq (.reg [] [.o 5 (.ld true 2 .cp (.k 2)),
 .o 6 (.ld true 2 .cp (.k 3)),
 .o 7 (.call n_pile_Item_Cmp [.k 5,.k 6]),
 .o 8 (.bin .eql (.k 7) (.c (.i .i64 0))),
 .o 4 (.mv (.k 8))] false [4] [])
 .ret))⟩

def F_pile_Item_Cmp : F := ⟨2,[.inl 4],
 (.seq (.reg [] [.o 2 (.bx (.k 0)),
 .o 3 (.bx (.k 1)),
 .o 4 (.mv (.c (.i .i64 0)))] false [2,3] [2,3])
 (.seq (.seq (.reg [] [.o 6 (.fa 0 (.t 2)),
 .o 7 (.ld false 1 .cp (.k 6)),
 .o 8 (.fa 0 (.t 3)),
 .o 9 (.ld false 1 .cp (.k 8)),
 .o 10 (.call n_real_Cmp [.k 7,.k 9]),
 .o 5 (.mv (.k 10))] false [2,3,5] [2,3])
 (.seq (.reg [] [.o 11 (.mv (.t 5)),
 .o 12 (.bin .neq (.k 11) (.c (.i .i64 0)))] false [2,3,5,12] [2,3])
 (.cond 12 (.seq (.reg [] [.o 13 (.mv (.k 5)),
 .o 4 (.mv (.k 13))] false [4] [])
 .ret)
 .skip)))
 (.seq (.blk 0 (.seq (.reg [] [.o 15 (.fa 1 (.t 2)),
 .o 16 (.ld false 1 .cp (.k 15)),
 .o 17 (.fa 1 (.t 3)),
 .o 18 (.ld false 1 .cp (.k 17)),
 .o 19 (.bin .lss (.k 16) (.k 18)),
 .o 14 (.mv (.k 19))] false [2,3,14] [2,3])
 (.cond 14 (.seq (.reg [] [.o 4 (.mv (.c (.i .i64 (-1))))] false [4] [])
 .ret)
 (.seq (.reg [] [.o 21 (.fa 1 (.k 2)),
 .o 22 (.ld false 1 .cp (.k 21)),
 .o 23 (.fa 1 (.k 3)),
 .o 24 (.ld false 1 .cp (.k 23)),
 .o 25 (.bin .gtr (.k 22) (.k 24)),
 .o 20 (.mv (.k 25))] false [20] [])
 (.cond 20 (.seq (.reg [] [.o 4 (.mv (.c (.i .i64 1)))] false [4] [])
 .ret)
 .skip)))))
 (.seq (.reg [] [.o 4 (.mv (.c (.i .i64 0)))] false [4] [])
 .ret))))⟩

def F_cell_Value_Clone : F := ⟨1,[.inr (2,true,2)],
 (.seq (.reg [.zz 0] [.o 1 (.bx (.k 0)),
 .o 2 (.al ([.i .i64 0,.l .o 2 []]))] false [1,2] [1,2])
 (.seq (.reg [] [.o 3 (.fa 0 (.t 1)),
 .o 4 (.ld false 1 .cp (.k 3)),
 .u 5 (.fa 1 (.t 1)) [0,1] 0,
 .u 6 (.ld false 1 .cp (.k 5)) [0,1] 0,
 .u 7 (.app 2 16 (.c (.l .o 2 [])) (.k 6)) [0,1] 1,
 .o 8 (.bd ([.i .i64 0,.l .o 2 []]) [(0,1,.k 4),(1,1,.k 7)]),
 .s (.st 2 (.t 2) (.k 8))] true [2] [2])
 .ret))⟩

def F_container_heap_Init : F := ⟨1,[],
 (.seq (.reg [] [.o 4 (.mv (.t 0)),
 .o 5 (.inv "Len" (.k 4) []),
 .o 2 (.mv (.k 5))] false [0,2] [])
 (.seq (.reg [] [.o 6 (.mv (.t 2)),
 .o 7 (.bin .quo (.k 6) (.c (.i .i64 2))),
 .o 8 (.bin .sub (.k 7) (.c (.i .i64 1))),
 .o 3 (.mv (.k 8))] false [0,2,3] [])
 (.blk 0 (.loop (.seq (.seq (.reg [] [.o 9 (.mv (.t 3)),
 .o 10 (.bin .geq (.k 9) (.c (.i .i64 0)))] false [0,2,3,10] [])
 (.cond 10 .skip
 (.exit 0)))
 (.seq (.blk 1 (.reg [] [.o 13 (.mv (.t 0)),
 .o 14 (.mv (.t 3)),
 .o 15 (.mv (.t 2)),
 .o 16 (.call n_container_heap_down [.k 13,.k 14,.k 15])] false [0,2,3] []))
 (.reg [] [.o 11 (.mv (.k 3)),
 .o 12 (.bin .sub (.k 11) (.c (.i .i64 1))),
 .o 3 (.mv (.k 12))] false [0,2,3] [])))))))⟩

def F_pile_Pile_Take : F := ⟨1,[.inr (2,true,2),.inl 3],
 (.seq (.reg [] [.o 2 (.al ([.f .f64 0,.i .i64 0])),
 .o 3 (.mv (.c (.b false)))] false [0,2] [2])
 (.seq (.seq (.reg [] [.o 4 (.mv (.t 0)),
 .o 5 (.nc (.k 4)),
 .o 6 (.fa 0 (.k 5)),
 .z 7 (.lda 1 (.k 6)) 1,
 .o 8 (.len false (.k 7)),
 .o 9 (.bin .eql (.k 8) (.c (.i .i64 0)))] false [0,2,9] [2])
 (.cond 9 (.seq (.reg [] [.o 10 (.bd ([.f .f64 0,.i .i64 0]) []),
 .s (.st 2 (.t 2) (.k 10)),
 .o 3 (.mv (.c (.b false)))] false [2,3] [2])
 .ret)
 .skip))
 (.seq (.reg [] [.o 11 (.mv (.k 0)),
 .o 12 (.nc (.k 11)),
 .o 13 (.fa 0 (.k 12)),
 .o 14 (.mi t_pile_items_u (.k 13)),
 .o 15 (.call n_container_heap_Pop [.k 14]),
 .o 16 (.ta t_pile_Item (.k 15)),
 .s (.st 2 (.t 2) (.k 16)),
 .o 3 (.mv (.c (.b true)))] false [2,3] [2])
 .ret)))⟩

def F_c_ref03_Bits : F := ⟨1,[.inl 2],
 (.seq (.reg [] [.o 2 (.mv (.c (.i .u64 0)))] false [0] [])
 (.seq (.seq (.reg [] [.o 3 (.mv (.t 0)),
 .o 4 (.bin .rem (.k 3) (.c (.i .u64 9223372036854775808))),
 .o 5 (.bin .gtr (.k 4) (.c (.i .u64 9218868437227405312)))] false [0,5] [])
 (.cond 5 (.seq (.reg [] [.o 2 (.mv (.c (.i .u64 9221120237041090560)))] false [2] [])
 .ret)
 .skip))
 (.seq (.reg [] [.o 6 (.mv (.k 0)),
 .o 2 (.mv (.k 6))] false [2] [])
 .ret)))⟩

def F_op_Of : F := ⟨1,[.inl 2],
 (.seq (.reg [] [.o 2 (.mv (.c (.l .o 1 [])))] false [0] [])
 (.seq (.seq (.reg [] [.o 3 (.mv (.k 0))] false [3] [])
 (.blk 0 (.seq (.reg [] [.o 5 (.bin .eql (.t 3) (.c (.i .i64 1))),
 .o 4 (.mv (.k 5))] false [3,4] [])
 (.cond 4 (.seq (.reg [] [.z 6 (.bs 1 2 (.i .i64 0) [(0,.c (.i .i64 1)),(1,.c (.i .i64 2))]) 1,
 .o 2 (.mv (.k 6))] false [2] [])
 .ret)
 (.seq (.reg [] [.o 8 (.bin .eql (.t 3) (.c (.i .i64 2))),
 .o 7 (.mv (.k 8))] false [3,7] [])
 (.cond 7 (.seq (.reg [] [.z 9 (.bs 1 2 (.i .i64 0) [(0,.c (.i .i64 3)),(1,.c (.i .i64 4))]) 1,
 .o 2 (.mv (.k 9))] false [2] [])
 .ret)
 (.seq (.reg [] [.o 11 (.bin .eql (.t 3) (.c (.i .i64 3))),
 .o 10 (.mv (.k 11))] false [3,10] [])
 (.cond 10 (.seq (.reg [] [.z 12 (.bs 1 2 (.i .i64 0) [(0,.c (.i .i64 5)),(1,.c (.i .i64 6))]) 1,
 .o 2 (.mv (.k 12))] false [2] [])
 .ret)
 (.seq (.reg [] [.o 14 (.bin .eql (.k 3) (.c (.i .i64 4))),
 .o 13 (.mv (.k 14))] false [13] [])
 (.cond 13 (.seq (.reg [] [.z 15 (.bs 1 1 (.i .i64 0) [(0,.c (.i .i64 7))]) 1,
 .o 2 (.mv (.k 15))] false [2] [])
 .ret)
 .skip))))))))))
 (.seq (.reg [] [.o 2 (.mv (.c (.l .o 1 [])))] false [2] [])
 .ret)))⟩

def F_slices_IndexFunc_pile_Item_pile_Item : F := ⟨2,[.inl 4],
 (.seq (.reg [.zz 0] [.o 4 (.mv (.c (.i .i64 0)))] false [0,1] [])
 (.seq (.seq (.reg [] [.o 6 (.mv (.t 0)),
 .o 7 (.len false (.k 6)),
 .o 8 (.mv (.c (.i .i64 0)))] false [0,1,7,8] [])
 (.blk 0 (.loop (.seq (.reg [] [.o 9 (.bin .lss (.t 8) (.t 7))] false [0,1,7,8,9] [])
 (.seq (.cond 9 .skip
 (.exit 0))
 (.seq (.blk 1 (.seq (.reg [] [.o 10 (.mv (.t 8)),
 .o 5 (.mv (.k 10))] false [0,1,5,7,8] [])
 (.seq (.reg [] [.o 11 (.mv (.t 1)),
 .o 12 (.mv (.t 0)),
 .o 13 (.mv (.t 5)),
 .o 14 (.ia 2 none (.k 12) (.k 13)),
 .o 15 (.ld true 2 .cp (.k 14)),
 .o 16 (.callv (.k 11) [.k 15])] false [0,1,5,7,8,16] [])
 (.cond 16 (.seq (.reg [] [.o 17 (.mv (.k 5)),
 .o 4 (.mv (.k 17))] false [4] [])
 .ret)
 .skip))))
 (.reg [] [.o 18 (.bin .add (.k 8) (.c (.i .i64 1))),
 .o 8 (.mv (.k 18))] false [0,1,7,8] [])))))))
 (.seq (.reg [] [.o 4 (.mv (.c (.i .i64 (-1))))] false [4] [])
 .ret)))⟩

def F_value_Value_without_1 : F := ⟨2,[.inl 3],
 (.seq (.reg [] [.o 2 (.bx (.k 0)),
 .o 3 (.mv (.c (.b false)))] false [1,2] [2])
 (.seq (.reg [] [.o 4 (.ld true 2 .cp (.k 1)),
 .o 5 (.ld true 2 .cp (.k 2)),
 .o 6 (.call n_pile_Item_Cmp [.k 4,.k 5]),
 .o 7 (.bin .eql (.k 6) (.c (.i .i64 0))),
 .o 3 (.mv (.k 7))] false [3] [])
 .ret))⟩

def F_c_ref04_Cmp : F := ⟨2,[.inl 4],
 (.seq (.reg [] [.o 2 (.bx (.k 0)),
 .o 3 (.bx (.k 1)),
 .o 4 (.mv (.c (.i .i64 0)))] false [2,3] [2,3])
 (.seq (.reg [] [.o 6 (.fa 0 (.t 2)),
 .o 7 (.ld false 1 .cp (.k 6)),
 .o 8 (.fa 0 (.t 3)),
 .o 9 (.ld false 1 .cp (.k 8)),
 .o 10 (.call n_c_ref03_Cmp [.k 7,.k 9]),
 .o 5 (.mv (.k 10))] false [2,3,5] [2,3])
 (.seq (.seq (.reg [] [.o 11 (.mv (.t 5)),
 .o 12 (.bin .eql (.k 11) (.c (.i .i64 0))),
 .o 13 (.mv (.k 12)),
 .c 13 true 14 (.fa 1 (.t 2)),
 .c 13 true 15 (.ld false 1 .cp (.k 14)),
 .c 13 true 16 (.fa 1 (.t 3)),
 .c 13 true 17 (.ld false 1 .cp (.k 16)),
 .c 13 true 18 (.bin .lss (.k 15) (.k 17)),
 .o 19 (.pick (.k 13) (.k 18) (.c (.b false)))] false [2,3,5,19] [2,3])
 (.cond 19 (.reg [] [.o 5 (.mv (.c (.i .i64 (-1))))] false [2,3,5] [2,3])
 .skip))
 (.seq (.seq (.reg [] [.o 20 (.mv (.t 5)),
 .o 21 (.bin .eql (.k 20) (.c (.i .i64 0))),
 .o 22 (.mv (.k 21)),
 .c 22 true 23 (.fa 1 (.k 2)),
 .c 22 true 24 (.ld false 1 .cp (.k 23)),
 .c 22 true 25 (.fa 1 (.k 3)),
 .c 22 true 26 (.ld false 1 .cp (.k 25)),
 .c 22 true 27 (.bin .gtr (.k 24) (.k 26)),
 .o 28 (.pick (.k 22) (.k 27) (.c (.b false)))] false [5,28] [])
 (.cond 28 (.reg [] [.o 5 (.mv (.c (.i .i64 1)))] false [5] [])
 .skip))
 (.seq (.reg [] [.o 29 (.mv (.k 5)),
 .o 4 (.mv (.k 29))] false [4] [])
 .ret)))))⟩

def F_cell_Memory_Len : F := ⟨1,[.inl 2],
 (.seq (.reg [] [.o 2 (.mv (.c (.i .i64 0)))] false [0] [])
 (.seq (.reg [] [.o 3 (.mv (.k 0)),
 .o 4 (.nc (.k 3)),
 .o 5 (.fa 0 (.k 4)),
 .z 6 (.lda 1 (.k 5)) 1,
 .o 7 (.len false (.k 6)),
 .o 2 (.mv (.k 7))] false [2] [])
 .ret))⟩

def F_value_line_1 : F := ⟨2,[.inl 4],
 (.seq (.reg [.zz 0,.zz 1] [.o 2 (.bx (.k 0)),
 .o 3 (.bx (.k 1)),
 .o 4 (.mv (.c (.i .i64 0)))] false [2,3] [2,3])
 (.seq (.reg [] [.o 5 (.fa 0 (.k 2)),
 .o 6 (.ld false 1 .cp (.k 5)),
 .o 7 (.cv (.int .i64) (.k 6)),
 .o 8 (.fa 0 (.k 3)),
 .o 9 (.ld false 1 .cp (.k 8)),
 .o 10 (.cv (.int .i64) (.k 9)),
 .o 11 (.bin .sub (.k 7) (.k 10)),
 .o 4 (.mv (.k 11))] false [4] [])
 .ret))⟩

def F_wire_Make : F := ⟨1,[.inr (2,true,3),.inl 3],
 (.seq (.reg [] [.o 2 (.al ([.i .i64 0,.l .o 2 [],.l .o 1 []])),
 .o 3 (.mv (.c (.i .i64 0)))] false [0,2] [2])
 (.seq (.seq (.reg [] [.o 8 (.mv (.t 0)),
 .o 9 (.call n_op_Legal [.c (.i .i64 4),.k 8]),
 .o 4 (.mv (.k 9))] false [0,2,4] [2])
 (.seq (.reg [] [.o 10 (.mv (.t 4)),
 .o 11 (.bin .neq (.k 10) (.c (.i .i64 0)))] false [0,2,4,11] [2])
 (.cond 11 (.seq (.reg [] [.o 12 (.bd ([.i .i64 0,.l .o 2 [],.l .o 1 []]) []),
 .o 13 (.mv (.k 4)),
 .s (.st 3 (.t 2) (.k 12)),
 .o 3 (.mv (.k 13))] false [2,3] [2])
 .ret)
 .skip)))
 (.seq (.reg [] [.o 14 (.mv (.t 0)),
 .o 15 (.bd ([.i .i64 0,.l .o 2 [],.l .o 1 []]) [(0,1,.k 14)]),
 .o 5 (.ag ([.i .i64 0,.l .o 2 [],.l .o 1 []])),
 .s (.st 3 (.t 5) (.k 15))] false [0,2,5] [2])
 (.seq (.reg [] [.o 16 (.mv (.k 0)),
 .o 17 (.ms 1 8 (.i .i64 0) (.t 16) (.t 16)),
 .o 6 (.mv (.k 17))] false [2,5,6] [2,6])
 (.seq (.seq (.reg [.thaw 6] [.o 18 (.mv (.t 6)),
 .o 19 (.len false (.k 18)),
 .o 20 (.mv (.c (.i .i64 0)))] false [2,5,6,19,20] [2,6])
 (.blk 0 (.loop (.seq (.reg [] [.o 21 (.bin .lss (.t 20) (.t 19))] false [2,5,6,19,20,21] [2,6])
 (.seq (.cond 21 .skip
 (.exit 0))
 (.seq (.blk 1 (.seq (.reg [] [.o 22 (.mv (.t 20)),
 .o 7 (.mv (.k 22))] false [2,5,6,7,19,20] [2,6])
 (.reg [.thaw 6] [.o 23 (.mv (.t 6)),
 .o 24 (.mv (.t 7)),
 .o 25 (.mv (.k 7)),
 .o 26 (.ia 1 none (.k 23) (.k 24)),
 .s (.st 1 (.k 26) (.k 25))] false [2,5,6,19,20] [2,6])))
 (.reg [] [.o 27 (.bin .add (.k 20) (.c (.i .i64 1))),
 .o 20 (.mv (.k 27))] false [2,5,6,19,20] [2,6])))))))
 (.seq (.reg [.unth 6] [.z 28 (.mv (.k 6)) 2,
 .o 29 (.call n_wire_Plan_count [.t 5,.k 28]),
 .o 30 (.fa 2 (.t 5)),
 .s (.st 1 (.k 30) (.k 29))] false [2,5] [2])
 (.seq (.reg [] [.o 31 (.ld true 3 .cp (.k 5)),
 .s (.st 3 (.t 2) (.k 31)),
 .o 3 (.mv (.c (.i .i64 0)))] false [2,3] [2])
 .ret)))))))⟩

def F_real_Cmp : F := ⟨2,[.inl 4],
 (.seq (.reg [] [.o 4 (.mv (.c (.i .i64 0)))] false [0,1] [])
 (.seq (.reg [] [.o 7 (.mv (.k 0)),
 .o 8 (.call n_real_Key [.k 7]),
 .o 9 (.mv (.k 1)),
 .o 10 (.call n_real_Key [.k 9]),
 .o 5 (.mv (.k 8)),
 .o 6 (.mv (.k 10))] false [5,6] [])
 (.seq (.blk 0 (.seq (.reg [] [.o 12 (.mv (.t 5)),
 .o 13 (.mv (.t 6)),
 .o 14 (.bin .lss (.k 12) (.k 13)),
 .o 11 (.mv (.k 14))] false [5,6,11] [])
 (.cond 11 (.seq (.reg [] [.o 4 (.mv (.c (.i .i64 (-1))))] false [4] [])
 .ret)
 (.seq (.reg [] [.o 16 (.mv (.k 5)),
 .o 17 (.mv (.k 6)),
 .o 18 (.bin .gtr (.k 16) (.k 17)),
 .o 15 (.mv (.k 18))] false [15] [])
 (.cond 15 (.seq (.reg [] [.o 4 (.mv (.c (.i .i64 1)))] false [4] [])
 .ret)
 .skip)))))
 (.seq (.reg [] [.o 4 (.mv (.c (.i .i64 0)))] false [4] [])
 .ret))))⟩

def F_container_heap_down : F := ⟨3,[.inl 6],
 (.seq (.reg [] [.o 6 (.mv (.c (.b false)))] false [0,1,2] [])
 (.seq (.reg [] [.o 11 (.mv (.t 1)),
 .o 7 (.mv (.k 11))] false [0,1,2,7] [])
 (.seq (.blk 0 (.loop (.blk 1 (.seq (.reg [] [.o 12 (.mv (.t 7)),
 .o 13 (.bin .mul (.c (.i .i64 2)) (.k 12)),
 .o 14 (.bin .add (.k 13) (.c (.i .i64 1))),
 .o 8 (.mv (.k 14))] false [0,1,2,7,8] [])
 (.seq (.seq (.reg [] [.o 15 (.mv (.t 8)),
 .o 16 (.mv (.t 2)),
 .o 17 (.bin .geq (.k 15) (.k 16)),
 .o 18 (.mv (.k 17)),
 .c 18 false 19 (.mv (.t 8)),
 .c 18 false 20 (.bin .lss (.k 19) (.c (.i .i64 0))),
 .o 21 (.pick (.k 18) (.c (.b true)) (.k 20))] false [0,1,2,7,8,21] [])
 (.cond 21 (.exit 0)
 .skip))
 (.seq (.reg [] [.o 22 (.mv (.t 8)),
 .o 9 (.mv (.k 22))] false [0,1,2,7,8,9] [])
 (.seq (.seq (.reg [] [.o 23 (.mv (.t 8)),
 .o 24 (.bin .add (.k 23) (.c (.i .i64 1))),
 .o 10 (.mv (.k 24))] false [0,1,2,7,8,9,10] [])
 (.seq (.reg [] [.o 25 (.mv (.t 10)),
 .o 26 (.mv (.t 2)),
 .o 27 (.bin .lss (.k 25) (.k 26)),
 .o 28 (.mv (.k 27)),
 .c 28 true 29 (.mv (.t 0)),
 .c 28 true 30 (.mv (.t 10)),
 .c 28 true 31 (.mv (.k 8)),
 .c 28 true 32 (.inv "Less" (.k 29) [.k 30,.k 31]),
 .o 33 (.pick (.k 28) (.k 32) (.c (.b false)))] false [0,1,2,7,9,10,33] [])
 (.cond 33 (.reg [] [.o 34 (.mv (.k 10)),
 .o 9 (.mv (.k 34))] false [0,1,2,7,9] [])
 .skip)))
 (.seq (.seq (.reg [] [.o 35 (.mv (.t 0)),
 .o 36 (.mv (.t 9)),
 .o 37 (.mv (.t 7)),
 .o 38 (.inv "Less" (.k 35) [.k 36,.k 37]),
 .o 39 (.un .not (.k 38))] false [0,1,2,7,9,39] [])
 (.cond 39 (.exit 0)
 .skip))
 (.seq (.reg [] [.o 40 (.mv (.t 0)),
 .o 41 (.mv (.k 7)),
 .o 42 (.mv (.t 9)),
 .o 43 (.inv "Swap" (.k 40) [.k 41,.k 42])] false [0,1,2,9] [])
 (.reg [] [.o 44 (.mv (.k 9)),
 .o 7 (.mv (.k 44))] false [0,1,2,7] []))))))))))
 (.seq (.reg [] [.o 45 (.mv (.k 7)),
 .o 46 (.mv (.k 1)),
 .o 47 (.bin .gtr (.k 45) (.k 46)),
 .o 6 (.mv (.k 47))] false [6] [])
 .ret))))⟩

def F_container_heap_Pop : F := ⟨1,[.inl 2],
 (.seq (.reg [] [.o 2 (.mv (.c (.nili)))] false [0] [])
 (.seq (.reg [] [.o 4 (.mv (.t 0)),
 .o 5 (.inv "Len" (.k 4) []),
 .o 6 (.bin .sub (.k 5) (.c (.i .i64 1))),
 .o 3 (.mv (.k 6))] false [0,3] [])
 (.seq (.reg [] [.o 7 (.mv (.t 0)),
 .o 8 (.mv (.t 3)),
 .o 9 (.inv "Swap" (.k 7) [.c (.i .i64 0),.k 8])] false [0,3] [])
 (.seq (.reg [] [.o 10 (.mv (.t 0)),
 .o 11 (.mv (.k 3)),
 .o 12 (.call n_container_heap_down [.k 10,.c (.i .i64 0),.k 11])] false [0] [])
 (.seq (.reg [] [.o 13 (.mv (.k 0)),
 .o 14 (.inv "Pop" (.k 13) []),
 .o 2 (.mv (.k 14))] false [2] [])
 .ret)))))⟩

def F_c_ref03_Cmp : F := ⟨2,[.inl 4],
 (.seq (.reg [] [.o 4 (.mv (.c (.i .i64 0)))] false [0,1] [])
 (.seq (.seq (.reg [] [.o 5 (.mv (.t 0)),
 .o 6 (.call n_c_ref03_Key [.k 5]),
 .o 7 (.mv (.t 1)),
 .o 8 (.call n_c_ref03_Key [.k 7]),
 .o 9 (.bin .lss (.k 6) (.k 8))] false [0,1,9] [])
 (.cond 9 (.seq (.reg [] [.o 4 (.mv (.c (.i .i64 (-1))))] false [4] [])
 .ret)
 .skip))
 (.seq (.seq (.reg [] [.o 10 (.mv (.k 0)),
 .o 11 (.call n_c_ref03_Key [.k 10]),
 .o 12 (.mv (.k 1)),
 .o 13 (.call n_c_ref03_Key [.k 12]),
 .o 14 (.bin .gtr (.k 11) (.k 13))] false [14] [])
 (.cond 14 (.seq (.reg [] [.o 4 (.mv (.c (.i .i64 1)))] false [4] [])
 .ret)
 .skip))
 (.seq (.reg [] [.o 4 (.mv (.c (.i .i64 0)))] false [4] [])
 .ret))))⟩

def F_wire_Plan_count : F := ⟨2,[.inl 4],
 (.seq (.reg [.zz 1] [.o 4 (.mv (.c (.l .o 1 [])))] false [0,1] [])
 (.seq (.reg [] [.o 6 (.mv (.t 1)),
 .o 7 (.len false (.k 6)),
 .o 8 (.bin .quo (.k 7) (.c (.i .i64 2))),
 .o 5 (.mv (.k 8))] false [0,1,5] [])
 (.seq (.seq (.reg [] [.o 9 (.mv (.t 5)),
 .o 10 (.bin .eql (.k 9) (.c (.i .i64 0)))] false [0,1,5,10] [])
 (.cond 10 (.seq (.reg [] [.o 11 (.mv (.k 1)),
 .o 4 (.mv (.k 11))] false [4] [])
 .ret)
 .skip))
 (.seq (.reg [] [.o 12 (.mv (.t 0)),
 .u 13 (.mv (.t 0)) [0] 0,
 .u 14 (.mv (.t 1)) [0,1] 0,
 .u 15 (.mv (.t 5)) [0,1,2] 0,
 .u 16 (.sl 1 (.k 14) none (some (.k 15)) none) [0,1] 2,
 .u 17 (.call n_wire_Plan_count [.k 13,.k 16]) [0] 2,
 .u 18 (.mv (.t 0)) [0,1,2,3,4,5] 0,
 .u 19 (.mv (.t 1)) [0,1,2,3,4,5,6] 0,
 .u 20 (.mv (.t 5)) [0,1,2,3,4,5,6,7] 0,
 .u 21 (.sl 1 (.k 19) (some (.k 20)) none none) [0,1,2,3,4,5,6] 2,
 .u 22 (.call n_wire_Plan_count [.k 18,.k 21]) [0] 2,
 .o 23 (.call n_wire_Plan_merge [.k 12,.k 17,.k 22]),
 .o 4 (.mv (.k 23))] true [4] [])
 .ret))))⟩

def F_real_Key : F := ⟨1,[.inl 2],
 (.seq (.reg [] [.o 2 (.mv (.c (.i .u64 0)))] false [0] [])
 (.seq (.reg [] [.o 4 (.mv (.k 0)),
 .o 5 (.call n_real_Canon [.k 4]),
 .o 6 (.bits (.k 5)),
 .o 3 (.mv (.k 6))] false [3] [])
 (.seq (.seq (.reg [] [.o 7 (.mv (.t 3)),
 .o 8 (.bin .and (.k 7) (.c (.i .u64 9223372036854775808))),
 .o 9 (.bin .neq (.k 8) (.c (.i .u64 0)))] false [3,9] [])
 (.cond 9 (.seq (.reg [] [.o 10 (.mv (.k 3)),
 .o 11 (.un .xor (.k 10)),
 .o 2 (.mv (.k 11))] false [2] [])
 .ret)
 .skip))
 (.seq (.reg [] [.o 12 (.mv (.k 3)),
 .o 13 (.bin .or (.k 12) (.c (.i .u64 9223372036854775808))),
 .o 2 (.mv (.k 13))] false [2] [])
 .ret))))⟩

def F_c_ref03_Key : F := ⟨1,[.inl 2],
 (.seq (.reg [] [.o 2 (.mv (.c (.i .u64 0)))] false [0] [])
 (.seq (.reg [] [.o 3 (.mv (.k 0)),
 .o 4 (.call n_c_ref03_Bits [.k 3]),
 .o 0 (.mv (.k 4))] false [0] [])
 (.seq (.seq (.reg [] [.o 5 (.mv (.t 0)),
 .o 6 (.bin .geq (.k 5) (.c (.i .u64 9223372036854775808)))] false [0,6] [])
 (.cond 6 (.seq (.reg [] [.o 7 (.mv (.k 0)),
 .o 8 (.bin .sub (.c (.i .u64 18446744073709551615)) (.k 7)),
 .o 2 (.mv (.k 8))] false [2] [])
 .ret)
 .skip))
 (.seq (.reg [] [.o 9 (.mv (.k 0)),
 .o 10 (.bin .add (.k 9) (.c (.i .u64 9223372036854775808))),
 .o 2 (.mv (.k 10))] false [2] [])
 .ret))))⟩

def F_wire_Plan_merge : F := ⟨3,[.inl 6],
 (.seq (.reg [.zz 1,.zz 2] [.o 6 (.mv (.c (.l .o 1 [])))] false [0,1,2] [])
 (.seq (.seq (.reg [] [.o 11 (.mv (.t 1)),
 .o 12 (.len false (.k 11)),
 .o 13 (.bin .eql (.k 12) (.c (.i .i64 1)))] false [0,1,2,13] [])
 (.cond 13 (.seq (.reg [] [.o 14 (.mv (.t 0)),
 .u 15 (.mv (.t 0)) [0] 0,
 .u 16 (.nc (.k 15)) [0] 0,
 .u 17 (.fa 1 (.k 16)) [0] 0,
 .u 18 (.ld false 1 .tk (.k 17)) [0] 0,
 .u 19 (.mv (.t 1)) [0,1,2,3,4] 0,
 .u 20 (.ia 1 none (.k 19) (.c (.i .i64 0))) [0,1,2,3,4] 0,
 .u 21 (.ld false 1 .cp (.k 20)) [0,1,2,3,4] 0,
 .u 22 (.mv (.t 2)) [0,1,2,3,4,5,6,7] 0,
 .u 23 (.ia 1 none (.k 22) (.c (.i .i64 0))) [0,1,2,3,4,5,6,7] 0,
 .u 24 (.ld false 1 .cp (.k 23)) [0,1,2,3,4,5,6,7] 0,
 .u 25 (.bd ([.i .i64 0,.i .i64 0]) [(0,1,.k 21),(1,1,.k 24)]) [0,1,2,3,4] 0,
 .u 26 (.bs 2 1 (.a ([.i .i64 0,.i .i64 0])) [(0,.k 25)]) [0,1,2,3,4] 0,
 .u 27 (.app 2 16 (.k 18) (.k 26)) [0] 1,
 .o 28 (.nc (.k 14)),
 .o 29 (.fa 1 (.k 28)),
 .s (.st 1 (.k 29) (.k 27))] true [1,2] [])
 (.seq (.reg [] [.o 30 (.mv (.k 1)),
 .o 31 (.ia 1 none (.k 30) (.c (.i .i64 0))),
 .o 32 (.ld false 1 .cp (.k 31)),
 .u 33 (.mv (.k 2)) [0,1,2] 0,
 .u 34 (.ia 1 none (.k 33) (.c (.i .i64 0))) [0,1,2] 0,
 .u 35 (.ld false 1 .cp (.k 34)) [0,1,2] 0,
 .z 36 (.bs 1 2 (.i .i64 0) [(0,.k 32),(1,.k 35)]) 1,
 .o 6 (.mv (.k 36))] true [6] [])
 .ret))
 .skip))
 (.seq (.reg [] [.o 37 (.mv (.t 0)),
 .z 38 (.mv (.t 1)) 2,
 .z 39 (.call n_wire_every [.k 38,.c (.i .i64 0)]) 2,
 .z 40 (.mv (.t 2)) 2,
 .z 41 (.call n_wire_every [.k 40,.c (.i .i64 1)]) 2,
 .o 42 (.call n_wire_Plan_merge [.k 37,.k 39,.k 41]),
 .o 7 (.mv (.k 42))] false [0,1,2,7] [])
 (.seq (.reg [] [.o 43 (.mv (.t 0)),
 .z 44 (.mv (.k 1)) 2,
 .z 45 (.call n_wire_every [.k 44,.c (.i .i64 1)]) 2,
 .z 46 (.mv (.k 2)) 2,
 .z 47 (.call n_wire_every [.k 46,.c (.i .i64 0)]) 2,
 .o 48 (.call n_wire_Plan_merge [.k 43,.k 45,.k 47]),
 .o 8 (.mv (.k 48))] false [0,7,8] [])
 (.seq (.reg [] [.o 9 (.mv (.c (.l .o 1 [])))] false [0,7,8,9] [])
 (.seq (.seq (.reg [] [.o 49 (.mv (.t 7)),
 .o 50 (.len false (.k 49)),
 .o 51 (.mv (.c (.i .i64 0)))] false [0,7,8,9,50,51] [])
 (.blk 0 (.loop (.seq (.reg [] [.o 52 (.bin .lss (.t 51) (.t 50))] false [0,7,8,9,50,51,52] [])
 (.seq (.cond 52 .skip
 (.exit 0))
 (.seq (.blk 1 (.seq (.reg [] [.o 53 (.mv (.t 51)),
 .o 10 (.mv (.k 53))] false [0,7,8,9,10,50,51] [])
 (.seq (.reg [] [.o 54 (.mv (.t 0)),
 .u 55 (.mv (.t 0)) [0] 0,
 .u 56 (.nc (.k 55)) [0] 0,
 .u 57 (.fa 1 (.k 56)) [0] 0,
 .u 58 (.ld false 1 .tk (.k 57)) [0] 0,
 .u 59 (.mv (.t 7)) [0,1,2,3,4] 0,
 .u 60 (.mv (.t 10)) [0,1,2,3,4,5] 0,
 .u 61 (.ia 1 none (.k 59) (.k 60)) [0,1,2,3,4] 0,
 .u 62 (.ld false 1 .cp (.k 61)) [0,1,2,3,4] 0,
 .u 63 (.mv (.t 8)) [0,1,2,3,4,5,6,7,8] 0,
 .u 64 (.mv (.t 10)) [0,1,2,3,4,5,6,7,8,9] 0,
 .u 65 (.ia 1 none (.k 63) (.k 64)) [0,1,2,3,4,5,6,7,8] 0,
 .u 66 (.ld false 1 .cp (.k 65)) [0,1,2,3,4,5,6,7,8] 0,
 .u 67 (.bd ([.i .i64 0,.i .i64 0]) [(0,1,.k 62),(1,1,.k 66)]) [0,1,2,3,4] 0,
 .u 68 (.bs 2 1 (.a ([.i .i64 0,.i .i64 0])) [(0,.k 67)]) [0,1,2,3,4] 0,
 .u 69 (.app 2 16 (.k 58) (.k 68)) [0] 1,
 .o 70 (.nc (.k 54)),
 .o 71 (.fa 1 (.k 70)),
 .s (.st 1 (.k 71) (.k 69))] true [0,7,8,9,10,50,51] [])
 (.reg [] [.o 72 (.mv (.k 9)),
 .u 73 (.mv (.t 7)) [0] 0,
 .u 74 (.mv (.t 10)) [0,1] 0,
 .u 75 (.ia 1 none (.k 73) (.k 74)) [0] 0,
 .u 76 (.ld false 1 .cp (.k 75)) [0] 0,
 .u 77 (.mv (.t 8)) [0,1,2,3,4] 0,
 .u 78 (.mv (.t 10)) [0,1,2,3,4,5] 0,
 .u 79 (.ia 1 none (.k 77) (.k 78)) [0,1,2,3,4] 0,
 .u 80 (.ld false 1 .cp (.k 79)) [0,1,2,3,4] 0,
 .u 81 (.bs 1 2 (.i .i64 0) [(0,.k 76),(1,.k 80)]) [0] 0,
 .z 82 (.app 1 8 (.k 72) (.k 81)) 1,
 .o 9 (.mv (.k 82))] true [0,7,8,9,50,51] []))))
 (.reg [] [.o 83 (.bin .add (.k 51) (.c (.i .i64 1))),
 .o 51 (.mv (.k 83))] false [0,7,8,9,50,51] [])))))))
 (.seq (.reg [] [.o 84 (.mv (.k 9)),
 .o 6 (.mv (.k 84))] false [6] [])
 .ret)))))))⟩

def F_slices_xorshift_Next : F := ⟨1,[.inl 2],
 (.seq (.reg [] [.o 2 (.mv (.c (.i .u64 0)))] false [0] [])
 (.seq (.reg [] [.o 3 (.mv (.t 0)),
 .o 4 (.nc (.t 3)),
 .o 5 (.ld false 1 .cp (.k 4)),
 .u 6 (.mv (.t 0)) [0,1,2] 0,
 .u 7 (.nc (.k 6)) [0,1,2] 0,
 .u 8 (.ld false 1 .cp (.k 7)) [0,1,2] 0,
 .u 9 (.bin .shl (.k 8) (.c (.i .u64 13))) [0,1,2] 0,
 .o 10 (.bin .xor (.k 5) (.k 9)),
 .o 11 (.nc (.t 3)),
 .s (.st 1 (.k 11) (.k 10))] true [0] [])
 (.seq (.reg [] [.o 12 (.mv (.t 0)),
 .o 13 (.nc (.t 12)),
 .o 14 (.ld false 1 .cp (.k 13)),
 .u 15 (.mv (.t 0)) [0,1,2] 0,
 .u 16 (.nc (.k 15)) [0,1,2] 0,
 .u 17 (.ld false 1 .cp (.k 16)) [0,1,2] 0,
 .u 18 (.bin .shr (.k 17) (.c (.i .u64 7))) [0,1,2] 0,
 .o 19 (.bin .xor (.k 14) (.k 18)),
 .o 20 (.nc (.t 12)),
 .s (.st 1 (.k 20) (.k 19))] true [0] [])
 (.seq (.reg [] [.o 21 (.mv (.t 0)),
 .o 22 (.nc (.t 21)),
 .o 23 (.ld false 1 .cp (.k 22)),
 .u 24 (.mv (.t 0)) [0,1,2] 0,
 .u 25 (.nc (.k 24)) [0,1,2] 0,
 .u 26 (.ld false 1 .cp (.k 25)) [0,1,2] 0,
 .u 27 (.bin .shl (.k 26) (.c (.i .u64 17))) [0,1,2] 0,
 .o 28 (.bin .xor (.k 23) (.k 27)),
 .o 29 (.nc (.t 21)),
 .s (.st 1 (.k 29) (.k 28))] true [0] [])
 (.seq (.reg [] [.o 30 (.mv (.k 0)),
 .o 31 (.nc (.k 30)),
 .o 32 (.ld false 1 .cp (.k 31)),
 .o 2 (.mv (.k 32))] false [2] [])
 .ret)))))⟩

def F_wire_every : F := ⟨2,[.inl 4],
 (.seq (.reg [.zz 0] [.o 4 (.mv (.c (.l .o 1 [])))] false [0,1] [])
 (.seq (.reg [] [.o 5 (.mv (.c (.l .o 1 [])))] false [0,1,5] [])
 (.seq (.seq (.reg [] [.o 7 (.mv (.k 1)),
 .o 6 (.mv (.k 7))] false [0,5,6] [])
 (.blk 0 (.loop (.seq (.seq (.reg [] [.o 8 (.mv (.t 6)),
 .o 9 (.mv (.t 0)),
 .o 10 (.len false (.k 9)),
 .o 11 (.bin .lss (.k 8) (.k 10))] false [0,5,6,11] [])
 (.cond 11 .skip
 (.exit 0)))
 (.seq (.blk 1 (.reg [] [.o 14 (.mv (.k 5)),
 .o 15 (.mv (.t 0)),
 .o 16 (.mv (.t 6)),
 .o 17 (.ia 1 none (.k 15) (.k 16)),
 .o 18 (.ld false 1 .cp (.k 17)),
 .o 19 (.bs 1 1 (.i .i64 0) [(0,.k 18)]),
 .z 20 (.app 1 8 (.k 14) (.k 19)) 1,
 .o 5 (.mv (.k 20))] false [0,5,6] []))
 (.reg [] [.o 12 (.mv (.k 6)),
 .o 13 (.bin .add (.k 12) (.c (.i .i64 2))),
 .o 6 (.mv (.k 13))] false [0,5,6] []))))))
 (.seq (.reg [] [.o 21 (.mv (.k 5)),
 .o 4 (.mv (.k 21))] false [4] [])
 .ret))))⟩

def F_pile_items_Len : F := ⟨1,[.inl 2],
 (.seq (.reg [.zz 0] [.o 2 (.mv (.c (.i .i64 0)))] false [0] [])
 (.seq (.reg [] [.o 3 (.mv (.k 0)),
 .o 4 (.len false (.k 3)),
 .o 2 (.mv (.k 4))] false [2] [])
 .ret))⟩

def F_pile_items_Less : F := ⟨3,[.inl 6],
 (.seq (.reg [.zz 0] [.o 6 (.mv (.c (.b false)))] false [0,1,2] [])
 (.seq (.reg [] [.o 7 (.mv (.t 0)),
 .u 8 (.mv (.k 1)) [0] 0,
 .o 9 (.ia 2 none (.k 7) (.k 8)),
 .o 10 (.ld true 2 .cp (.k 9)),
 .u 11 (.mv (.t 0)) [0,1,2,3] 0,
 .u 12 (.mv (.k 2)) [0,1,2,3,4] 0,
 .u 13 (.ia 2 none (.k 11) (.k 12)) [0,1,2,3] 0,
 .u 14 (.ld true 2 .cp (.k 13)) [0,1,2,3] 0,
 .o 15 (.call n_pile_Item_Cmp [.k 10,.k 14]),
 .o 16 (.bin .lss (.k 15) (.c (.i .i64 0))),
 .o 6 (.mv (.k 16))] true [6] [])
 .ret))⟩

def F_pile_items_Swap : F := ⟨3,[],
 (.reg [.thaw 0] [.o 6 (.mv (.t 0)),
 .u 7 (.mv (.t 1)) [0] 0,
 .u 8 (.mv (.t 0)) [0,1] 0,
 .u 9 (.mv (.t 2)) [0,1,2] 0,
 .u 10 (.mv (.t 0)) [0,1,2,3] 0,
 .u 11 (.mv (.t 2)) [0,1,2,3,4] 0,
 .u 12 (.ia 2 none (.k 10) (.k 11)) [0,1,2,3] 0,
 .u 13 (.ld true 2 .cp (.k 12)) [0,1,2,3] 0,
 .u 14 (.mv (.t 0)) [0,1,2,3,4,5,6,7] 0,
 .u 15 (.mv (.t 1)) [0,1,2,3,4,5,6,7,8] 0,
 .u 16 (.ia 2 none (.k 14) (.k 15)) [0,1,2,3,4,5,6,7] 0,
 .u 17 (.ld true 2 .cp (.k 16)) [0,1,2,3,4,5,6,7] 0,
 .u 18 (.ia 2 none (.k 6) (.k 7)) [2,3] 0,
 ⟨none,none,.st 2 (.k 18) (.k 13),[2,3],0⟩,
 .o 19 (.ia 2 none (.k 8) (.k 9)),
 .s (.st 2 (.k 19) (.k 17))] true [] [])⟩

def F_pile_items_Pop : F := ⟨1,[.inl 2],
 (.seq (.reg [] [.o 2 (.mv (.c (.nili)))] false [0] [])
 (.seq (.reg [] [.o 5 (.mv (.t 0)),
 .o 6 (.nc (.k 5)),
 .z 7 (.lda 1 (.k 6)) 1,
 .o 8 (.len false (.k 7)),
 .o 9 (.bin .sub (.k 8) (.c (.i .i64 1))),
 .o 3 (.mv (.k 9))] false [0,3] [])
 (.seq (.reg [] [.o 10 (.mv (.t 0)),
 .o 11 (.nc (.k 10)),
 .z 12 (.lda 1 (.k 11)) 1,
 .o 13 (.mv (.t 3)),
 .o 14 (.ia 2 none (.k 12) (.k 13)),
 .o 15 (.ld true 2 .cp (.k 14)),
 .o 4 (.al ([.f .f64 0,.i .i64 0])),
 .s (.st 2 (.t 4) (.k 15))] false [0,3,4] [4])
 (.seq (.reg [] [.o 16 (.mv (.t 0)),
 .o 17 (.mv (.k 0)),
 .o 18 (.nc (.k 17)),
 .o 19 (.ld false 1 .tk (.k 18)),
 .o 20 (.mv (.k 3)),
 .o 21 (.sl 2 (.k 19) none (some (.k 20)) none),
 .o 22 (.nc (.k 16)),
 .s (.st 1 (.k 22) (.k 21))] false [4] [4])
 (.seq (.reg [] [.o 23 (.ld true 2 .cp (.k 4)),
 .o 24 (.mi t_pile_Item (.k 23)),
 .o 2 (.mv (.k 24))] false [2] [])
 .ret)))))⟩

def F_pile_items_Len_q : F := ⟨1,[.inl 2],
 (.seq (.reg [] [.o 2 (.mv (.c (.i .i64 0)))] false [0] [])
 (.seq (.reg [] [.o 3 (.mv (.k 0)),
 .o 4 (.len false (.k 3)),
 .o 2 (.mv (.k 4))] false [2] [])
 .ret))⟩

def F_pile_items_Less_q : F := ⟨3,[.inl 6],
 (.seq (.reg [] [.o 6 (.mv (.c (.b false)))] false [0,1,2] [])
 (.seq (.reg [] [.o 7 (.mv (.t 0)),
 .u 8 (.mv (.k 1)) [0] 0,
 .o 9 (.ia 2 none (.k 7) (.k 8)),
 .o 10 (.ld true 2 .cp (.k 9)),
 .u 11 (.mv (.t 0)) [0,1,2,3] 0,
 .u 12 (.mv (.k 2)) [0,1,2,3,4] 0,
 .u 13 (.ia 2 none (.k 11) (.k 12)) [0,1,2,3] 0,
 .u 14 (.ld true 2 .cp (.k 13)) [0,1,2,3] 0,
 .o 15 (.call n_pile_Item_Cmp [.k 10,.k 14]),
 .o 16 (.bin .lss (.k 15) (.c (.i .i64 0))),
 .o 6 (.mv (.k 16))] true [6] [])
 .ret))⟩

def F_pile_items_Swap_q : F := ⟨3,[],
 (.reg [] [.o 6 (.mv (.t 0)),
 .u 7 (.mv (.t 1)) [0] 0,
 .u 8 (.mv (.t 0)) [0,1] 0,
 .u 9 (.mv (.t 2)) [0,1,2] 0,
 .u 10 (.mv (.t 0)) [0,1,2,3] 0,
 .u 11 (.mv (.t 2)) [0,1,2,3,4] 0,
 .u 12 (.ia 2 none (.k 10) (.k 11)) [0,1,2,3] 0,
 .u 13 (.ld true 2 .cp (.k 12)) [0,1,2,3] 0,
 .u 14 (.mv (.t 0)) [0,1,2,3,4,5,6,7] 0,
 .u 15 (.mv (.t 1)) [0,1,2,3,4,5,6,7,8] 0,
 .u 16 (.ia 2 none (.k 14) (.k 15)) [0,1,2,3,4,5,6,7] 0,
 .u 17 (.ld true 2 .cp (.k 16)) [0,1,2,3,4,5,6,7] 0,
 .u 18 (.ia 2 none (.k 6) (.k 7)) [2,3] 0,
 ⟨none,none,.st 2 (.k 18) (.k 13),[2,3],0⟩,
 .o 19 (.ia 2 none (.k 8) (.k 9)),
 .s (.st 2 (.k 19) (.k 17))] true [] [])⟩

end Go.AM

namespace Go.AM
open Go.Proofs Go.Shelf Go.RowKit Go.Lib Go.Sort
theorem run_clear_cells {P : Program} (w : World) (t e ty : TypeId) (z : Value) (ht : P.underlying t = some (.slice e)) (hv : ∀ w, (zeroValue e).run P w = .ok z w) (b o n c : Nat) (hn : 0 < n) (zs : List Value) (hz : (Builtin.zeroCells z.cells n).toList = zs) (h1 : ∀ v ∈ zs, v.oneCell' = true)
    (hc : ∀ j, j < zs.length → (w.cell? ⟨b, o + j, none⟩).isSome = true) (hf : ∀ j, j < zs.length → w.frozen? ⟨b, o + j, none⟩ = false) :
    (Builtin.clear_ #[t] ty #[.slice (some ⟨b, o, none⟩) n c]).run P w = .ok (.tuple #[]) (w.setCells b o zs) := by
 have hst := run_storeCells_cells (P := P) b o zs 0 w (by simpa using hc) (by simpa using hf) h1
 simp only [Nat.add_zero] at hst
 obtain ⟨m, rfl⟩ : ∃ m, n = m + 1 := ⟨n - 1, by omega⟩
 simp [Builtin.clear_, run_underlying ht, hv, hz, hst]
def itZ : Value := .agg #[.float .f64 0, .int .i64 0]
def zsI (n : Nat) : List Value := (Builtin.zeroCells itZ.cells n).toList
theorem zsI_len (n : Nat) : (zsI n).length = n * 2 := by simp [zsI, Builtin.zeroCells, itZ, Value.cells]
theorem zsI_one (n : Nat) : ∀ v ∈ zsI n, v.oneCell' = true := by
 intro v hv
 have : v = .float .f64 0 ∨ v = .int .i64 0 := by
  simp [zsI, Builtin.zeroCells, itZ, Value.cells] at hv
  obtain ⟨i, hi, rfl⟩ := hv
  have : i % 2 = 0 ∨ i % 2 = 1 := by omega
  rcases this with h | h <;> simp [h]
 rcases this with rfl | rfl <;> rfl
theorem del_u : Try.prog.underlying 31 = some (.slice 36) := by kernel_rfl
theorem del_i : ∃ i : TypeInfo, Try.prog.info? 36 = some i ∧ i.size = 2 ∧ i.zero = some itZ := by
 have h : (Try.prog.info? 36).map (fun i => (i.size, i.zero)) = some (2, some itZ) := by kernel_rfl
 cases hi : Try.prog.info? 36 with
 | none => rw [hi] at h; cases h
 | some i => rw [hi] at h; simp at h; exact ⟨i, rfl, h.1, h.2⟩
theorem del_z : ∀ w, (zeroValue 36).run Try.prog w = .ok itZ w := by
 obtain ⟨i, h1, h2, h3⟩ := del_i
 intro w
 simp [zeroValue, typeInfo, h1, h3]
set_option maxHeartbeats 4000000 in
set_option maxRecDepth 1000000 in
theorem del_same (blk off cap n i : Nat) (w : World) (hi : i ≤ n) (hc : n ≤ cap) :
    Calls Try.prog 92 #[.slice (some ⟨blk, off, none⟩) n cap, .int .i64 i, .int .i64 i] w fun e w' => e = .returned (.slice (some ⟨blk, off, none⟩) n cap) ∧ w' = w := by
 go_enter Try.func92, Try.ntmps92
 go_wp2
 all_goals (go_ret; exact ⟨rfl, rfl⟩)
set_option maxHeartbeats 4000000 in
set_option maxRecDepth 1000000 in
theorem del_cells (blk off cap n i j : Nat) (us : List Value) (w : World) (hu : us.length = n * 2) (h1 : ∀ u ∈ us, u.oneCell' = true) (hc : ∀ (t : Nat) (u : Value), us[t]? = some u → w.cell? ⟨blk, off + t, none⟩ = some u)
    (hf : ∀ t, t < n * 2 → w.frozen? ⟨blk, off + t, none⟩ = false) (hij : i < j) (hj : j ≤ n) (hcap : n ≤ cap) :
    Calls Try.prog 92 #[.slice (some ⟨blk, off, none⟩) n cap, .int .i64 i, .int .i64 j] w fun e w' => e = .returned (.slice (some ⟨blk, off, none⟩) (n - (j - i)) cap) ∧
     w' = (w.drew.setCells blk (off + i * 2) (us.drop (j * 2))).setCells blk (off + (i + (n - j)) * 2) (zsI (j - i)) := by
 have mixed : Try.prog.follows .mixedOrders = true := by kernel_rfl
 obtain ⟨i0, hi0, hi2, hi3⟩ := del_i
 obtain ⟨news, hnews⟩ : ∃ news, news = us.drop (j * 2) := ⟨_, rfl⟩
 have hlen : news.length = (n - j) * 2 := by rw [hnews, List.length_drop, hu]; omega
 have hisSome : ∀ t, t < n * 2 → (w.cell? ⟨blk, off + t, none⟩).isSome = true := by
  intro t ht
  rw [hc t us[t] (List.getElem?_eq_getElem (by omega))]; rfl
 obtain ⟨A, hA, hsrc⟩ : ∃ A : Addr, (if cap = j then some (⟨blk, off, none⟩ : Addr) else some ⟨blk, off + j * 2, none⟩) = some A ∧ Hid (∀ (t : Nat) (u : Value), news[t]? = some u → w.drew.cell? (A.add t) = some u) := by
  by_cases h : cap = j
  ·refine ⟨⟨blk, off, none⟩, by simp [h], fun t u hu' => ?_⟩
   have h0 : news.length = 0 := by rw [hlen]; omega
   rw [List.length_eq_zero_iff.1 h0] at hu'
   simp at hu'
  ·refine ⟨⟨blk, off + j * 2, none⟩, by simp [h], fun t u hu' => ?_⟩
   rw [hnews, List.getElem?_drop] at hu'
   rw [Addr.add_lit, show off + j * 2 + t = off + (j * 2 + t) by omega]
   exact hc _ u hu'
 have s1 : Hid (news.length = (n - j) * 2) := hlen
 have s2 : Hid (∀ u ∈ news, u.oneCell' = true) := fun u hu' => h1 u (List.mem_of_mem_drop (by rw [← hnews]; exact hu'))
 have s3 : Hid (∀ t, t < news.length → (w.drew.cell? ⟨blk, off + i * 2 + t, none⟩).isSome = true ∧ w.drew.frozen? ⟨blk, off + i * 2 + t, none⟩ = false) := by
  intro t ht
  rw [hlen] at ht
  rw [Nat.add_assoc]
  exact ⟨hisSome _ (by omega), hf _ (by omega)⟩
 obtain ⟨W1, hW1⟩ : ∃ W1, W1 = w.drew.setCells blk (off + i * 2) news := ⟨_, rfl⟩
 have hc1 : ∀ t, t < n * 2 → (W1.cell? ⟨blk, off + t, none⟩).isSome = true := by
  intro t ht
  rw [hW1]
  exact isSome_setCells blk news (off + i * 2) w.drew _ (hisSome t ht)
 have hf1 : ∀ t, t < n * 2 → W1.frozen? ⟨blk, off + t, none⟩ = false := by
  intro t ht
  rw [hW1, World.frozen?_setCells]
  exact hf t ht
 obtain ⟨zz, hzz⟩ : ∃ zz, zz = zsI (n - (i + (n - j))) := ⟨_, rfl⟩
 have hzl : zz.length = (n - (i + (n - j))) * 2 := by rw [hzz, zsI_len]
 have hcl : ∀ ty, (Builtin.clear_ #[31] ty #[.slice (some ⟨blk, off + (i + (n - j)) * 2, none⟩) (n - (i + (n - j))) (cap - (i + (n - j)))]).run Try.prog W1 = .ok (.tuple #[]) (W1.setCells blk (off + (i + (n - j)) * 2) zz) :=
  fun ty => run_clear_cells W1 31 36 ty itZ del_u del_z blk (off + (i + (n - j)) * 2) _ _ (by omega) zz (by rw [hzz]; rfl) (by rw [hzz]; exact zsI_one _)
   (fun t ht => by rw [hzl] at ht; rw [Nat.add_assoc]; exact hc1 _ (by omega)) (fun t ht => by rw [hzl] at ht; rw [Nat.add_assoc]; exact hf1 _ (by omega))
 have hW : Hid (W1 = w.drew.setCells blk (off + i * 2) news) := hW1
 have hic : i ≤ cap := by omega
 have hjc : j ≤ cap := by omega
 have hZ : Hid (zz = zsI (n - (i + (n - j)))) := hzz
 have hN : Hid (news = us.drop (j * 2)) := hnews
 clear hW1 hzz hnews hlen hisSome hc1 hf1 hc hf h1 hu hzl
 go_enter Try.func92, Try.ntmps92
 go_wp2_with fail
 go_region_law_o (refine step_append_room rfl (.tmp 22) (.tmp 25) 31 rfl 36 i0 2 del_u hi0 hi2 blk off i cap (by simp [Act.eval, Act.put]) A (n - j) (cap - j) news (by simp [Act.eval, Act.put]) s1.out hsrc.out s2.out (by omega) s3.out ?_; rw [← hW.out])
 go_wp2
 go_ret
 refine ⟨by rw [show n - (j - i) = i + (n - j) by omega]; rfl, ?_⟩
 rw [hW.out, hZ.out, hN.out, show n - (i + (n - j)) = j - i by omega]
set_option maxHeartbeats 4000000 in
set_option maxRecDepth 1000000 in
theorem del_nil (w : World) : Calls Try.prog 92 #[.slice none 0 0, .int .i64 0, .int .i64 0] w fun e w' => e = .returned (.slice none 0 0) ∧ w' = w := by
 go_enter Try.func92, Try.ntmps92
 go_wp2
 all_goals (go_ret; exact ⟨rfl, rfl⟩)
end Go.AM

namespace Go.AM
open Go.Proofs Go.Shelf Go.RowKit Go.Lib Go.Sort
set_option maxHeartbeats 4000000 in
set_option maxRecDepth 1000000 in
theorem cln_nil (w : World) : Calls Try.prog 56 #[.slice none 0 0] w fun e w' => e = .returned (.slice none 0 0) ∧ w' = w := by
 have mixed : Try.prog.follows .mixedOrders = true := by kernel_rfl
 have heq : ∀ w, (binOp .eql 31 (.slice none 0 0) (.slice none 0 0)).run Try.prog w = .ok (.bool true) w := fun w => run_eql_slice_nil w 31 36 none 0 0 0 0 del_u
 go_enter Try.func56, Try.ntmps56
 go_wp2
 all_goals (go_ret; exact ⟨rfl, rfl⟩)
set_option maxHeartbeats 4000000 in
set_option maxRecDepth 1000000 in
theorem cln_empty (a : Addr) (cap : Nat) (w : World) :
    Calls Try.prog 56 #[.slice (some a) 0 cap] w fun e w' => e = .returned (.slice (some ⟨w.heap.size, 0, none⟩) 0 0) ∧ w' = w.alloc (.cells #[] 36) := by
 have mixed : Try.prog.follows .mixedOrders = true := by kernel_rfl
 have heq : ∀ w, (binOp .eql 31 (.slice (some a) 0 cap) (.slice none 0 0)).run Try.prog w = .ok (.bool false) w := fun w => run_eql_slice_nil w 31 36 (some a) 0 cap 0 0 del_u
 go_enter Try.func56, Try.ntmps56
 go_wp2
 all_goals (go_ret; exact ⟨rfl, rfl⟩)
set_option maxHeartbeats 4000000 in
set_option maxRecDepth 1000000 in
theorem cln_some (a : Addr) (n cap : Nat) (w : World) (us : Array Value) (hn : 0 < n) (hlim : n * 16 ≤ 140737488355328)
    (hload : (loadCellsFrom a 0 (n * 2) #[]).run Try.prog (w.alloc (.cells #[] 36)).drew = .ok us (w.alloc (.cells #[] 36)).drew) :
    Calls Try.prog 56 #[.slice (some a) n cap] w fun e w' => e = .returned (.slice (some ⟨w.heap.size + 1, 0, none⟩) n ((Question.appendCap n 0 36).cut (w.tape w.drawn (Question.appendCap n 0 36)))) ∧
     w' = (w.alloc (.cells #[] 36)).drew.alloc (.cells (us ++ Builtin.zeroCells #[.float .f64 0, .int .i64 0] ((Question.appendCap n 0 36).cut (w.tape w.drawn (Question.appendCap n 0 36)) - n)) 36) := by
 have mixed : Try.prog.follows .mixedOrders = true := by kernel_rfl
 have heq : ∀ w, (binOp .eql 31 (.slice (some a) n cap) (.slice none 0 0)).run Try.prog w = .ok (.bool false) w := fun w => run_eql_slice_nil w 31 36 (some a) n cap 0 0 del_u
 go_enter Try.func56, Try.ntmps56
 go_wp2
 ·exfalso
  have hb : Try.t36.bytes = 16 := by kernel_rfl
  have h2 := growslice_fits (need := n) (old := 0) (bytes := 16) hn hlim
  simp only [hb] at *
  omega
 ·go_ret
  exact ⟨rfl, rfl⟩
end Go.AM

namespace Go.AM
open Go.Proofs
theorem del_enters : Enters Try.prog 92 := enters_of Try.func92 (by kernel_rfl) rfl
theorem take_drop_cells {xs : List D} {i j sz : Nat} (hs : ∀ x ∈ xs, x.cells.length = sz) (hij : i ≤ j) (hj : j ≤ xs.length) :
    cellsOf xs = cellsOf (xs.take i) ++ (cellsOf ((xs.take j).drop i) ++ cellsOf (xs.drop j)) ∧ (cellsOf (xs.take i)).length = i * sz ∧ (cellsOf ((xs.take j).drop i)).length = (j - i) * sz := by
 refine ⟨?_, ?_, ?_⟩
 ·rw [← cellsOf_append, ← cellsOf_append]
  congr 1
  have e1 : xs = xs.take j ++ xs.drop j := (List.take_append_drop j xs).symm
  have e2 : xs.take j = xs.take i ++ (xs.take j).drop i := by
   have := List.take_append_drop i (xs.take j)
   rw [List.take_take, Nat.min_eq_left hij] at this
   exact this.symm
  rw [← List.append_assoc, ← e2]; exact e1
 ·rw [cellsOf_length (fun x hx => hs x (List.mem_of_mem_take hx)), List.length_take, Nat.min_eq_left (by omega)]
 ·rw [cellsOf_length (fun x hx => hs x (List.mem_of_mem_take (List.mem_of_mem_drop hx))), List.length_drop, List.length_take, Nat.min_eq_left hj]
theorem lib_del {sg : List (List D)} {w : World} {g : G} {F0 : List Nat} {F : Site → List Nat} {vs : List Value} {Fx : List Nat} {xs : List D} {i j : Nat} (hij : i ≤ j) (hj : j ≤ xs.length)
    (h : Sm ⟨w, g.im, g.gl, sg, F0, 0⟩ g F ⟨[], [], sg, sg.length⟩ ⟨#[], []⟩ w [.l .x 2 xs, .i .i64 i, .i .i64 j] vs Fx) :
    Calls Try.prog 92 vs.toArray w (fun e w' => match e with
     | .returned v => ∃ g' F' Fx', Sm ⟨w, g.im, g.gl, sg, F0, 0⟩ g' F' ⟨[], [], sg, sg.length⟩ ⟨#[], []⟩ w' [.l .x 2 (xs.take i ++ xs.drop j)] [v] Fx'
     | _ => False) := by
 obtain ⟨v, us1, A, C, e1, e2, r1, r2⟩ := RVs.cons_inv h.ex
 obtain ⟨rfl, rfl⟩ : us1 = [.int .i64 i, .int .i64 j] ∧ C = [] := by
  cases r2 with
  | i k n h2 => cases h2 with
   | i k n h3 => cases h3; exact ⟨rfl, rfl⟩
 subst e1
 rw [List.append_nil] at e2
 subst e2
 have hnd := h.dj.ndx
 have r1' := r1
 rcases l_inv r1 with ⟨rfl, ev, rfl⟩ | ⟨_, hkz, _⟩ | ⟨b, o, cap, us, G, ev, hcap, hs, h1c, hcc, hk⟩
 ·have hj0 : j = 0 := by simpa using hj
  subst hj0
  have hi0 : i = 0 := by omega
  subst hi0
  subst ev
  refine (del_nil w).mono ?_
  rintro e w' ⟨rfl, rfl⟩
  exact ⟨g, F, [], h.weaken _ _ _ (by simpa using r1') (by simp) List.nodup_nil⟩
 ·rcases hkz with hk | hk <;> cases hk
 ·rcases hk with ⟨hk, _⟩ | ⟨hk, _⟩ | ⟨_, rfl, ⟨c, tt, ff, hb1, hb2, hb3, hb4⟩, him, hucell⟩
  ·rcases hk with hk | hk <;> cases hk
  ·cases hk
  subst ev
  by_cases heq : i = j
  ·subst heq
   refine (del_same b o cap xs.length i w hj hcap).mono ?_
   rintro e w' ⟨rfl, rfl⟩
   exact ⟨g, F, b :: G, h.weaken _ _ _ (by simpa using r1') (fun c hc => hc) hnd⟩
  ·have hlt : i < j := by omega
   have hul : us.length = xs.length * 2 := by rw [← hcc.length, cellsOf_length hs]
   refine (del_cells b o cap xs.length i j us w hul h1c hucell (fun t ht => hb3 _ (by omega)) hlt hj hcap).mono ?_
   rintro e w' ⟨rfl, rfl⟩
   obtain ⟨k1, k2, k3, k4, k5, k6⟩ := heap_setCells b (us.drop (j * 2)) (o + i * 2) w.drew c tt ff hb1 (by simp; omega)
   obtain ⟨q1, q2, q3, q4, q5, q6⟩ := heap_setCells b (zsI (j - i)) (o + (i + (xs.length - j)) * 2) _ _ tt ff k1 (by simp [zsI_len]; omega)
   have hsome : ∀ t, t < xs.length * 2 → (w.drew.cell? ⟨b, o + t, none⟩).isSome = true := by
    intro t ht
    have := hucell t us[t] (List.getElem?_eq_getElem (by omega))
    show (w.cell? _).isSome = true
    rw [this]; rfl
   obtain ⟨d1, d2, d3⟩ := take_drop_cells hs hij hj
   have hcc' := hcc
   rw [d1] at hcc'
   obtain ⟨u1, u23, G1, G23, e1, e2, l1, s1, s23⟩ := RVs.append_inv _ hcc'
   obtain ⟨u2, u3, G2, G3, e3, e4, l2, s2, s3⟩ := RVs.append_inv _ s23
   rw [d2] at l1
   rw [d3] at l2
   subst e4
   subst e2
   have hu1 : us.take (i * 2) = u1 := by rw [e1, ← l1]; simp
   have hu3 : us.drop (j * 2) = u3 := by
    rw [e1, e3, show j * 2 = u1.length + u2.length by omega, ← List.append_assoc, ← List.length_append, List.drop_left]
   have hGn := (List.nodup_cons.1 hnd)
   have hbG : b ∉ G1 ++ (G2 ++ G3) := hGn.1
   have hsub : (G1 ++ G3).Sublist (G1 ++ (G2 ++ G3)) := List.Sublist.append_left (List.sublist_append_right G2 G3) G1
   have hch : Chg ⟨w, g.im, g.gl, sg, F0, 0⟩ g g w.drew ((w.drew.setCells b (o + i * 2) (us.drop (j * 2))).setCells b (o + (i + (xs.length - j)) * 2) (zsI (j - i))) (b :: (G1 ++ (G2 ++ G3))) := by
    refine ⟨fun c' hc' => (q2 c' (by rintro rfl; simp at hc')).trans (k2 c' (by rintro rfl; simp at hc')), q3.trans k3, fun c' j u e => e, fun _ _ _ => rfl, ?_, rfl, rfl, q4.trans k4, q5.trans k5, q6.trans k6⟩
    intro c' j u e1
    have hcb : c' ≠ b := by rintro rfl; rw [him] at e1; cases e1
    exact (World.cell?_of_block (w := w.drew) (a := ⟨c', j, none⟩) ((q2 c' hcb).trans (k2 c' hcb))).trans (h.imok _ _ _ e1)
   have hfr : ∀ {es ts K}, (∀ c ∈ K, c ∈ G1 ++ (G2 ++ G3)) → g.rv w es ts K → g.rv ((w.drew.setCells b (o + i * 2) (us.drop (j * 2))).setCells b (o + (i + (xs.length - j)) * 2) (zsI (j - i))) es ts K :=
    fun hK hr => hr.frame (fun _ _ _ e => e) (fun _ _ e => e) (fun c hc => ⟨fun _ => rfl, (q2 c (by rintro rfl; exact hbG (hK _ hc))).trans (k2 c (by rintro rfl; exact hbG (hK _ hc)))⟩)
   have hcell : ∀ (t : Nat) (u : Value), (u1 ++ u3)[t]? = some u → ((w.drew.setCells b (o + i * 2) (us.drop (j * 2))).setCells b (o + (i + (xs.length - j)) * 2) (zsI (j - i))).cell? ⟨b, o + t, none⟩ = some u := by
    intro t u ht
    have htl : t < i * 2 + (xs.length - j) * 2 := by
     have := (List.getElem?_eq_some_iff.1 ht).1
     rw [List.length_append, l1, ← hu3, List.length_drop, hul] at this
     omega
    rw [World.cell?_setCells_out b _ _ _ _ (fun _ _ => .inl (by simp only; omega))]
    by_cases hti : t < i * 2
    ·rw [World.cell?_setCells_out b _ _ _ _ (fun _ _ => .inl (by simp only; omega))]
     rw [List.getElem?_append_left (by omega), ← hu1, List.getElem?_take, if_pos hti] at ht
     exact hucell t u ht
    ·obtain ⟨r, hr⟩ : ∃ r, t = i * 2 + r := ⟨t - i * 2, by omega⟩
     subst hr
     rw [List.getElem?_append_right (by omega), l1, Nat.add_sub_cancel_left, ← hu3] at ht
     obtain ⟨hrl, hru⟩ := List.getElem?_eq_some_iff.1 ht
     have := World.cell?_setCells_in b (us.drop (j * 2)) (o + i * 2) w.drew (fun q hq => by
      rw [Nat.add_assoc]; exact hsome _ (by simp [hul] at hq; omega)) r hrl
     rw [hru] at this
     rw [← Nat.add_assoc]; exact this
   have hx := RVs.lx (im := g.im) (gl := g.gl) (w := (w.drew.setCells b (o + i * 2) (us.drop (j * 2))).setCells b (o + (i + (xs.length - j)) * 2) (zsI (j - i))) 2 (xs.take i ++ xs.drop j) b o cap (u1 ++ u3) (by simp; omega)
    (fun y hy => by rcases List.mem_append.1 hy with hy | hy; exact hs y (List.mem_of_mem_take hy); exact hs y (List.mem_of_mem_drop hy)) hcell
    (fun u hu => by
     rcases List.mem_append.1 hu with hu | hu
     ·rw [← hu1] at hu; exact h1c u (List.mem_of_mem_take hu)
     ·rw [← hu3] at hu; exact h1c u (List.mem_of_mem_drop hu))
    ⟨_, tt, ff, q1, by simp [zsI_len, hul]; omega, fun q hq => by rw [World.frozen?_setCells, World.frozen?_setCells]; exact hb3 q (by simp [zsI_len, hul] at hq; omega), hb4⟩ him
    (by rw [cellsOf_append]; exact (hfr (fun c hc => by simp only [List.mem_append]; exact .inl hc) s1).append (hfr (fun c hc => by simp only [List.mem_append]; exact .inr (.inr hc)) s3)) .nil
   have hlen : (xs.take i ++ xs.drop j).length = xs.length - (j - i) := by simp; omega
   rw [hlen] at hx
   refine ⟨g, F, b :: (G1 ++ G3), (h.drew).setx hch (by simpa using hx) ?_ ?_⟩
   ·exact List.nodup_cons.2 ⟨fun hm => hbG (hsub.subset hm), hsub.nodup hGn.2⟩
   ·intro c hc
    rcases List.mem_cons.1 hc with rfl | hc
    ·simp
    ·exact List.mem_cons_of_mem _ (hsub.subset hc)
def delL : List D → Option D
 | [.l .x 2 xs, .i .i64 i, .i .i64 j] => if 0 ≤ i ∧ i ≤ j ∧ j.toNat ≤ xs.length then some (.l .x 2 (xs.take i.toNat ++ xs.drop j.toNat)) else none
 | _ => none
theorem delL_inv {ds : List D} {d : D} (h : delL ds = some d) : ∃ xs i j, ds = [.l .x 2 xs, .i .i64 ((i : Nat) : Int), .i .i64 ((j : Nat) : Int)] ∧ i ≤ j ∧ j ≤ xs.length ∧ d = .l .x 2 (xs.take i ++ xs.drop j) := by
 unfold delL at h
 split at h
 ·rename_i xs i j
  split at h
  ·rename_i hc
   cases h
   exact ⟨xs, i.toNat, j.toNat, by rw [show ((i.toNat : Nat) : Int) = i by omega, show ((j.toNat : Nat) : Int) = j by omega], by omega, hc.2.2, rfl⟩
  ·cases h
 ·cases h
end Go.AM

namespace Go.AM
open Go.Proofs Go.Lib
theorem cln_enters : Enters Try.prog 56 := enters_of Try.func56 (by kernel_rfl) rfl
def clnD (xs : List D) : D := if xs.length = 0 then .l .n 2 [] else .l .x 2 xs
theorem lib_cln {sg : List (List D)} {w : World} {g : G} {F0 : List Nat} {F : Site → List Nat} {vs : List Value} {Fx : List Nat} {xs : List D} (hlim : xs.length * 16 ≤ 140737488355328)
    (h : Sm ⟨w, g.im, g.gl, sg, F0, 0⟩ g F ⟨[], [], sg, sg.length⟩ ⟨#[], []⟩ w [.l .z 2 xs] vs Fx) :
    Calls Try.prog 56 vs.toArray w (fun e w' => match e with
     | .returned v => ∃ g' F' Fx', Sm ⟨w, g.im, g.gl, sg, F0, 0⟩ g' F' ⟨[], [], sg, sg.length⟩ ⟨#[], []⟩ w' [clnD xs] [v] Fx'
     | _ => False) := by
 obtain ⟨v, rfl⟩ := h.ex.single
 rcases l_inv h.ex with ⟨rfl, ev, _⟩ | ⟨rfl, _, _, x0, cap, _, ev⟩ | ⟨b, o, cap, us, G, ev, hcap, hs, h1c, hcc, hk⟩
 ·subst ev
  refine (cln_nil w).mono ?_
  rintro e w' ⟨rfl, rfl⟩
  exact ⟨g, F, [], h.drop (.lnil .n _ .nil)⟩
 ·subst ev
  refine (cln_empty x0 cap w).mono ?_
  rintro e w' ⟨rfl, rfl⟩
  exact ⟨g, F, [], (h.alloc (.cells #[] 36)).drop (.lez .n (.inr rfl) _ _ 0 (fun _ => rfl) .nil)⟩
 ·subst ev
  rcases hk with ⟨_, rfl, rfl, _, him⟩ | ⟨hk, _⟩ | ⟨hk, _⟩
  rotate_left
  ·cases hk
  ·cases hk
  by_cases h0 : xs.length = 0
  ·have hx0 : xs = [] := List.length_eq_zero_iff.1 h0
   subst hx0
   refine (cln_empty ⟨b, o, none⟩ cap w).mono ?_
   rintro e w' ⟨rfl, rfl⟩
   exact ⟨g, F, [], (h.alloc (.cells #[] 36)).drop (.lez .n (.inr rfl) _ _ 0 (fun _ => rfl) .nil)⟩
  ·have hul : us.length = xs.length * 2 := by rw [← hcc.length, cellsOf_length hs]
   have hcell : ∀ (j : Nat) (u : Value), us[j]? = some u → (w.alloc (.cells #[] 36)).drew.cell? ⟨b, o + j, none⟩ = some u := fun j u e => cell?_alloc_some _ (h.imok _ _ _ (him j u e))
   have hload : (loadCellsFrom ⟨b, o, none⟩ 0 (xs.length * 2) #[]).run Try.prog (w.alloc (.cells #[] 36)).drew = .ok us.toArray (w.alloc (.cells #[] 36)).drew := by
    have := run_loadCells_list (P := Try.prog) (w.alloc (.cells #[] 36)).drew ⟨b, o, none⟩ us (fun j u e => by rw [add_addr]; exact hcell j u e)
    rw [hul] at this
    exact this
   refine (cln_some ⟨b, o, none⟩ xs.length cap w us.toArray (by omega) hlim hload).mono ?_
   rintro e w' ⟨rfl, rfl⟩
   have hge : xs.length ≤ (Question.appendCap xs.length 0 36).cut (w.tape w.drawn (Question.appendCap xs.length 0 36)) := grownCap_ge (w.alloc (.cells #[] 36)) xs.length 0 36
   have k1 := (h.alloc (.cells #[] 36)).drew
   have k2 := k1.weaken (cellsOf xs) us [] (hcc.frame (fun _ _ _ e => e) (fun _ _ e => e) (by simp)) (by simp) List.nodup_nil
   generalize (Question.appendCap xs.length 0 36).cut (w.tape w.drawn (Question.appendCap xs.length 0 36)) = cc at *
   have k3 := k2.newx 2 xs us (us.toArray ++ Builtin.zeroCells #[.float .f64 0, .int .i64 0] (cc - xs.length)) 36 cc k2.ex h1c hs (fun j u hj => by
       have hjl : j < us.length := (List.getElem?_eq_some_iff.1 hj).1
       rw [Array.getElem?_append_left (by simpa using hjl)]
       simpa using hj) hge (by rw [Array.size_append, size_zeroCells]; simp [hul]; omega)
   refine ⟨g, F, [w.heap.size + 1], ?_⟩
   have : clnD xs = .l .x 2 xs := by unfold clnD; rw [if_neg h0]
   rw [this]
   simpa using k3
def clnL : List D → Option D
 | [.l .z 2 xs] => if xs.length * 16 ≤ 140737488355328 then some (clnD xs) else none
 | _ => none
theorem clnL_inv {ds : List D} {d : D} (h : clnL ds = some d) : ∃ xs, ds = [.l .z 2 xs] ∧ xs.length * 16 ≤ 140737488355328 ∧ d = clnD xs := by
 unfold clnL at h
 split at h
 ·rename_i xs
  split at h
  ·rename_i hc
   cases h
   exact ⟨xs, rfl, hc, rfl⟩
  ·cases h
 ·cases h
theorem toldF {E : En} (hl : ∀ f ds d, E.lib f ds = some d → (f = 92 ∧ delL ds = some d) ∨ (f = 56 ∧ clnL ds = some d)) : LibF Try.prog E := by
 intro f ds d h
 rcases hl f ds d h with ⟨hf, hd⟩ | ⟨hf, hd⟩
 ·subst hf
  obtain ⟨xs, i, j, rfl, h1, h2, rfl⟩ := delL_inv hd
  exact ⟨by decide, del_enters, fun sg w g F0 F vs Fx hs => lib_del h1 h2 hs⟩
 ·subst hf
  obtain ⟨xs, rfl, h1, rfl⟩ := clnL_inv hd
  exact ⟨by decide, cln_enters, fun sg w g F0 F vs Fx hs => lib_cln h1 hs⟩
end Go.AM

namespace Go.Proofs
open Go.Shelf
def Try.sortV_ren : Go.Shelf.Ren := ⟨fun | 6 => 95 | 15 => 110 | 14 => 109 | 28 => 124 | 29 => 125 | 20 => 116 | 21 => 117 | 22 => 118 | 23 => 119 | 24 => 120 | 25 => 121 | 26 => 122 | 27 => 123 | 46 => 127 | 47 => 128 | 48 => 129 | 49 => 130 | 50 => 131 | 57 => 133 | n => n, fun | 22 => 149 | 24 => 121 | 25 => 191 | 3 => 3 | 39 => 216 | 0 => 0 | 53 => 233 | 55 => 23 | 4 => 4 | 46 => 226 | 45 => 225 | 50 => 230 | 5 => 5 | 9 => 9 | 66 => 239 | 70 => 243 | 76 => 246 | 77 => 29 | n => n, fun | n => n⟩
theorem Try.sortV : Go.Proofs.SlLaysF0.n6 Try.prog Try.sortV_ren := {
 mixed := by kernel_rfl
 f6 := ⟨Try.f95.name, by decide, Try.func95.trans (congrArg some (by kernel_rfl))⟩
 f14 := ⟨Try.f109.name, by decide, Try.func109.trans (congrArg some (by kernel_rfl))⟩
 f15 := Try.func110.trans (congrArg some (by kernel_rfl))
 f20 := ⟨Try.f116.name, by decide, Try.func116.trans (congrArg some (by kernel_rfl))⟩
 f21 := ⟨Try.f117.name, by decide, Try.func117.trans (congrArg some (by kernel_rfl))⟩
 f22 := ⟨Try.f118.name, by decide, Try.func118.trans (congrArg some (by kernel_rfl))⟩
 f23 := ⟨Try.f119.name, by decide, Try.func119.trans (congrArg some (by kernel_rfl))⟩
 f24 := ⟨Try.f120.name, by decide, Try.func120.trans (congrArg some (by kernel_rfl))⟩
 f25 := ⟨Try.f121.name, by decide, Try.func121.trans (congrArg some (by kernel_rfl))⟩
 f26 := ⟨Try.f122.name, by decide, Try.func122.trans (congrArg some (by kernel_rfl))⟩
 f27 := ⟨Try.f123.name, by decide, Try.func123.trans (congrArg some (by kernel_rfl))⟩
 f28 := Try.func124.trans (congrArg some (by kernel_rfl))
 f29 := Try.func125.trans (congrArg some (by kernel_rfl))
 f46 := ⟨Try.f127.name, by decide, Try.func127.trans (congrArg some (by kernel_rfl))⟩
 f47 := Try.func128.trans (congrArg some (by kernel_rfl))
 f48 := Try.func129.trans (congrArg some (by kernel_rfl))
 f49 := ⟨Try.f130.name, by decide, Try.func130.trans (congrArg some (by kernel_rfl))⟩
 f50 := ⟨Try.f131.name, by decide, Try.func131.trans (congrArg some (by kernel_rfl))⟩
 f57 := ⟨Try.f133.name, by decide, Try.func133.trans (congrArg some (by kernel_rfl))⟩
 t0 := Try.underlying0
 a0 := Try.isAgg0
 z0 := Try.sizeOf0
 v0 := Try.zeroValue0
 t3 := Try.underlying3
 a3 := Try.isAgg3
 z3 := Try.sizeOf3
 v3 := Try.zeroValue3
 t4 := Try.underlying4
 a4 := Try.isAgg4
 z4 := Try.sizeOf4
 v4 := Try.zeroValue4
 t5 := Try.underlying5
 a5 := Try.isAgg5
 z5 := Try.sizeOf5
 v5 := Try.zeroValue5
 t9 := Try.underlying9
 a9 := Try.isAgg9
 z9 := Try.sizeOf9
 v9 := Try.zeroValue9
 t22 := Try.underlying149
 a22 := Try.isAgg149
 z22 := Try.sizeOf149
 v22 := Try.zeroValue149
 t25 := Try.underlying191
 a25 := Try.isAgg191
 z25 := Try.sizeOf191
 v25 := Try.zeroValue191
 t39 := Try.underlying216
 a39 := Try.isAgg216
 z39 := Try.sizeOf216
 v39 := Try.zeroValue216
 t45 := Try.underlying225
 a45 := Try.isAgg225
 z45 := Try.sizeOf225
 v45 := Try.zeroValue225
 t46 := Try.underlying226
 a46 := Try.isAgg226
 z46 := Try.sizeOf226
 v46 := Try.zeroValue226
 t50 := Try.underlying230
 a50 := Try.isAgg230
 z50 := Try.sizeOf230
 v50 := Try.zeroValue230
 t53 := Try.underlying233
 a53 := Try.isAgg233
 z53 := Try.sizeOf233
 v53 := Try.zeroValue233
 t55 := Try.underlying23
 a55 := Try.isAgg23
 z55 := Try.sizeOf23
 v55 := Try.zeroValue23
 t66 := Try.underlying239
 a66 := Try.isAgg239
 z66 := Try.sizeOf239
 v66 := Try.zeroValue239
 t70 := Try.underlying243
 a70 := Try.isAgg243
 z70 := Try.sizeOf243
 v70 := Try.zeroValue243
 t76 := Try.underlying246
 a76 := Try.isAgg246
 z76 := Try.sizeOf246
 v76 := Try.zeroValue246
 t77 := Try.underlying29
 a77 := Try.isAgg29
 z77 := Try.sizeOf29
 v77 := Try.zeroValue29 }
end Go.Proofs
namespace Go.AM
open Go.Proofs Go.Shelf Go.RowKit Go.Lib Go.Sort
def verD : D → Int
 | .a (.i .u64 v :: _) => v
 | _ => -1
def okV (d : D) : Bool := decide (0 ≤ verD d) && decide (verD d < 4611686018427387904)
def leVer (a b : D) : Bool := decide (verD a ≤ verD b)
def srtV (xs : List D) : Option (List D) := if xs.all okV = true ∧ (xs.map verD).Nodup ∧ xs.length < 4611686018427387904 then some (xs.mergeSort leVer) else none
set_option maxHeartbeats 1000000 in
theorem srt_cmp (x y : Int) (hx : 0 ≤ x ∧ x < 4611686018427387904) (hy : 0 ≤ y ∧ y < 4611686018427387904) (a a' b b' : Value) (ha : a.oneCell' = true) (ha' : a'.oneCell' = true) (hb : b.oneCell' = true) (hb' : b'.oneCell' = true) (W : World) :
    Calls Try.prog 96 #[.agg #[.int .u64 x, a, a'], .agg #[.int .u64 y, b, b']] W fun e w' => e = .returned (.int .i64 (x - y)) ∧ ∃ q os', w' = grow (W.drewN q) os' := by
 have w1 : IntKind.i64.wrap x = x := by simp [IntKind.wrap, IntKind.signed, IntKind.bits]; omega
 have w2 : IntKind.i64.wrap y = y := by simp [IntKind.wrap, IntKind.signed, IntKind.bits]; omega
 have w3 : IntKind.i64.wrap (x - y) = x - y := by simp [IntKind.wrap, IntKind.signed, IntKind.bits]; omega
 go_enter Try.func96, Try.ntmps96
 go_wp2
 go_ret
 exact ⟨rfl, 0, _, by rw [alloc_eq_grow, alloc_eq_grow, grow_grow]; rfl⟩
def srtL : FuncId → FuncId → Nat → List D → Option (List D) := fun f g sz xs => if f = 95 ∧ g = 96 ∧ sz = 3 then srtV xs else none
theorem srt_row {im : Nat → Nat → Option Value} {gl : Nat → Option Nat} {w : World} {d : D} {us : List Value} {F : List Nat} (h : RVs im gl w d.cells us F) (ho : okV d = true) (hl : us.length = 3) :
    ∃ a b, us = [.int .u64 (verD d), a, b] ∧ 0 ≤ verD d ∧ verD d < 4611686018427387904 := by
 obtain ⟨h0, h1⟩ : 0 ≤ verD d ∧ verD d < 4611686018427387904 := by simpa [okV] using ho
 have hd : ∃ v r, d = .a (.i .u64 v :: r) := by
  unfold verD at h0; split at h0
  ·exact ⟨_, _, rfl⟩
  ·omega
 obtain ⟨v, r, rfl⟩ := hd
 have h' : RVs im gl w (.i .u64 v :: r) us F := h
 obtain ⟨u, us', A, B, rfl, rfl, h2, _⟩ := RVs.cons_inv h'
 cases h2
 match us', hl with
 | [a, b], _ => exact ⟨a, b, rfl, h0, h1⟩
theorem flat_get {k : Nat} (hk : 0 < k) : ∀ (rows : List (List Value)), (∀ r ∈ rows, r.length = k) → ∀ t : Nat, rows.flatten[t]? = (rows[t / k]?).bind (·[t % k]?)
 | [], _, t => by simp
 | r :: rows, h, t => by
  have hr : r.length = k := h r (by simp)
  rw [List.flatten_cons]
  by_cases ht : t < k
  ·rw [List.getElem?_append_left (by omega), Nat.div_eq_of_lt ht, Nat.mod_eq_of_lt ht]; simp
  ·have e1 : t / k = (t - k) / k + 1 := by rw [Nat.div_eq_sub_div hk (by omega)]
   have e2 : t % k = (t - k) % k := by rw [Nat.mod_eq_sub_mod (by omega)]
   rw [List.getElem?_append_right (by omega), hr, flat_get hk rows (fun r hr => h r (by simp [hr])), e1, e2]
   simp
theorem flat_len {k : Nat} : ∀ (rows : List (List Value)), (∀ r ∈ rows, r.length = k) → rows.flatten.length = rows.length * k
 | [], _ => by simp
 | r :: rows, h => by
  rw [List.flatten_cons, List.length_append, flat_len rows (fun r hr => h r (by simp [hr])), h r (by simp), List.length_cons, Nat.add_mul]; omega
theorem flatK_get {n : Nat} [Inhabited (Fin n)] (enc : Fin n → List Value) (k : Nat) (hk : 0 < k) (he : ∀ x, (enc x).length = k) (l : List (Fin n)) (t : Nat) (ht : t < l.length * k) :
    (flatK enc k l.toArray)[t]? = ((l.map enc).flatten)[t]? := by
 have hdiv : t / k < l.length := (Nat.div_lt_iff_lt_mul hk).2 ht
 have hmod : t % k < k := Nat.mod_lt _ hk
 have h1 : t < (flatK enc k l.toArray).size := by simpa using ht
 have h2 := get_flatK enc k l.toArray t (by simpa using ht)
 rw [flat_get hk (l.map enc) (fun r hr => by obtain ⟨x, _, rfl⟩ := List.mem_map.1 hr; exact he x) t]
 rw [Array.getElem?_eq_getElem h1]
 rw [getElem!_pos _ t h1] at h2
 rw [h2, List.getElem?_map, List.getElem?_eq_getElem hdiv]
 have e : (l.toArray)[t / k]! = l[t / k] := by rw [getElem!_pos l.toArray (t / k) (by simpa using hdiv)]; simp
 simp only [Option.map_some, Option.bind_some, e]
 have hl : t % k < (enc l[t / k]).length := by rw [he]; exact hmod
 rw [List.getElem?_eq_getElem hl, getElem!_pos (enc l[t / k]) (t % k) hl]
theorem srtF : SrtOK Try.prog srtL := by
 intro f g sz xs ys h
 unfold srtL at h
 split at h
 ·rename_i hc
  obtain ⟨rfl, rfl, rfl⟩ := hc
  unfold srtV at h
  split at h
  ·rename_i hc
   obtain ⟨hall, hnd, hlen62⟩ := hc
   cases h
   have eS : Enters Try.prog 95 := Try.sortV.f6.enters rfl
   have eG : ∀ args w, (callFunc 96 args).run Try.prog w = .ok (.enter 96 args) w := enters_of Try.func96 (by kernel_rfl) rfl
   refine ⟨eS, fun e => by subst e; simp, fun e p cap w => ?_, ?_⟩
   ·subst e; exact AnyF.slices_SortFunc_none Try.sortV p cap _ w
   ·intro zs hz hne hrow
    subst hz
    have hn0 : 0 < zs.length := List.length_pos_iff.2 hne
    haveI : Inhabited (Fin zs.length) := ⟨⟨0, hn0⟩⟩
    have hmem : ∀ i : Fin zs.length, zs.get i ∈ zs := fun i => List.get_mem zs i
    have hr : ∀ i : Fin zs.length, ∃ a b, (zs.get i).2.1 = [.int .u64 (verD (zs.get i).1), a, b] ∧ 0 ≤ verD (zs.get i).1 ∧ verD (zs.get i).1 < 4611686018427387904 := by
     intro i
     obtain ⟨h1, h2, im, gl, w, h3⟩ := hrow _ (hmem i)
     exact srt_row h3 (List.all_eq_true.1 hall _ (List.mem_map.2 ⟨_, hmem i, rfl⟩)) h1
    obtain ⟨enc, henc⟩ : ∃ enc : Fin zs.length → List Value, enc = fun i => (zs.get i).2.1 := ⟨_, rfl⟩
    obtain ⟨ver, hver⟩ : ∃ ver : Fin zs.length → Int, ver = fun i => verD (zs.get i).1 := ⟨_, rfl⟩
    have hr' : ∀ i, ∃ a b, enc i = [.int .u64 (ver i), a, b] ∧ 0 ≤ ver i ∧ ver i < 4611686018427387904 := by rw [henc, hver]; exact hr
    have hk : ∀ i, (enc i).length = 3 := by intro i; obtain ⟨a, b, e, _⟩ := hr' i; rw [e]; rfl
    have h1 : ∀ i, ∀ v ∈ enc i, v.oneCell' = true := by rw [henc]; exact fun i => (hrow _ (hmem i)).2.1
    obtain ⟨cf, hcf⟩ : ∃ cf : Fin zs.length → Fin zs.length → Int, cf = fun i j => ver i - ver j := ⟨_, rfl⟩
    have hlt : ∀ i j, ltOf cf i j = decide (ver i < ver j) := by
     intro i j
     unfold ltOf
     rw [hcf]
     simp only [decide_eq_decide]
     omega
    have hO : SWO (ltOf cf) := ⟨fun x => by rw [hlt]; simp, fun x y z h1 h2 => by rw [hlt] at *; simp at *; omega, fun x y z h1 h2 => by rw [hlt] at *; simp at *; omega⟩
    have hT : ∀ i j, ltOf cf i j = false → ltOf cf j i = false → i = j := by
     intro i j h1 h2
     rw [hlt] at h1 h2
     simp only [decide_eq_false_iff_not, Int.not_lt] at h1 h2
     have e : ver i = ver j := by omega
     rw [hver] at e
     have hp := List.pairwise_iff_getElem.1 hnd
     rcases Nat.lt_trichotomy i.val j.val with h | h | h
     ·exact absurd (by simpa using e) (hp i.val j.val (by simp) (by simp) h)
     ·exact Fin.ext h
     ·exact absurd (by simpa using e.symm) (hp j.val i.val (by simp) (by simp) h)
    obtain ⟨sl, hsl⟩ : ∃ sl, sl = (List.finRange zs.length).mergeSort (fun x y => !(ltOf cf) y x) := ⟨_, rfl⟩
    have hslp : List.Perm sl (List.finRange zs.length) := by rw [hsl]; exact List.mergeSort_perm _ _
    have hsll : sl.length = zs.length := by rw [hslp.length_eq]; simp
    have hzg : (List.finRange zs.length).map zs.get = zs := by
     apply List.ext_getElem
     ·simp
     ·intro i h1 h2; simp
    refine ⟨sl.map zs.get, ?_, ?_, ?_⟩
    ·have := hslp.map zs.get
     rwa [hzg] at this
    ·have e : zs.map (·.1) = (List.finRange zs.length).map (fun i => (zs.get i).1) := by
      conv => lhs; rw [← hzg]
      rw [List.map_map]; rfl
     rw [e, hsl, List.map_map]
     refine (List.map_mergeSort (s := leVer) (f := fun i : Fin zs.length => (zs.get i).1) (fun i _ j _ => ?_)).trans rfl
     rw [hlt, hver]
     simp only [leVer]
     rw [← decide_not]
     simp only [decide_eq_decide]
     omega
    ·intro w b o cap c t f' hb hfz hsz hcells
     have hrows : (zs.map (·.2.1)) = (List.finRange zs.length).map enc := by
      conv => lhs; rw [← hzg]
      rw [List.map_map, henc]; rfl
     have hrows' : ((sl.map zs.get).map (·.2.1)) = sl.map enc := by rw [List.map_map, henc]; rfl
     rw [hrows] at hsz hcells
     rw [hrows']
     have hfl : ∀ l : List (Fin zs.length), (l.map enc).flatten.length = l.length * 3 := by
      intro l
      rw [flat_len (k := 3) _ (fun r hr => by obtain ⟨x, _, rfl⟩ := List.mem_map.1 hr; exact hk x)]; simp
     have hbl : b < w.heap.size := by rw [Array.getElem?_eq_some_iff] at hb; exact hb.1
     have hH : HoldsK enc 3 w b o (List.finRange zs.length).toArray := by
      intro j hj
      have hj' : j < (List.finRange zs.length).length * 3 := by simpa using hj
      have e1 := flatK_get enc 3 (by decide) hk (List.finRange zs.length) j hj'
      have hjs : j < (flatK enc 3 (List.finRange zs.length).toArray).size := hj
      rw [Array.getElem?_eq_getElem hjs] at e1
      rw [hfl] at hsz
      refine ⟨?_, hfz _ (by omega)⟩
      have := hcells j _ e1.symm
      rw [cell_of_row _ _ _ _ _ _ hb, getElem!_pos _ j hjs]
      exact this
     have hcmp : CmpLays Try.prog 96 #[] enc 3 cf b o (List.finRange zs.length).toArray.size w := by
      intro m os dk hs x y
      obtain ⟨a1, a2, ea, ha⟩ := hr' x
      obtain ⟨b1, b2, eb, hb'⟩ := hr' y
      have hxa := h1 x
      have hya := h1 y
      rw [ea] at hxa ⊢
      rw [eb] at hya ⊢
      have := srt_cmp (ver x) (ver y) ha hb' a1 a2 b1 b2 (hxa _ (by simp)) (hxa _ (by simp)) (hya _ (by simp)) (hya _ (by simp)) (sortWorldK enc 3 w b o m dk os)
      rw [hcf]
      simpa using this
     have hcon := AnyQ.slices_SortFunc_total Try.sortV 3 (run_isAgg (by kernel_rfl)) (run_sizeOf (by kernel_rfl)) enc hk h1 cf hO 96 #[] b o cap (List.finRange zs.length).toArray w eG hcmp hH hbl (by
      simpa using hlen62) hT
     have hs0 : (List.finRange zs.length).toArray.size = (zs.map (·.1)).length := by simp
     rw [hs0] at hcon
     refine hcon.mono ?_
     rintro e w' ⟨rfl, m, os, rfl⟩
     refine ⟨rfl, ?_⟩
     rw [show (List.finRange zs.length).toArray.toList = List.finRange zs.length from rfl, ← hsl]
     have hF : (flatK enc 3 sl.toArray).size = (sl.map enc).flatten.length := by rw [hfl]; simp
     obtain ⟨Fl, hFl⟩ : ∃ Fl, Fl = flatK enc 3 sl.toArray := ⟨_, rfl⟩
     rw [← hFl] at hF
     have hFg : ∀ j, j < (sl.map enc).flatten.length → Fl[j]? = (sl.map enc).flatten[j]? := by
      intro j hj
      rw [hFl]
      exact flatK_get enc 3 (by decide) hk sl j (by rw [hfl] at hj; exact hj)
     have hW : sortWorldK enc 3 w b o m sl.toArray os = { w with drawn := w.drawn + m, heap := w.heap.modify b (onCells (putCells id o Fl)) ++ os } := by rw [hFl]; rfl
     rw [hW]
     have hlo : o + (sl.map enc).flatten.length ≤ c.size := by rw [hfl] at hsz ⊢; rw [hsll]; simpa using hsz
     refine ⟨rfl, rfl, rfl, by simp, fun x hx hxb => ?_, c, t, f', putCells id o Fl c, hb, ?_, by simp [putCells], fun j => ?_⟩
     ·show (w.heap.modify b (onCells (putCells id o Fl)) ++ os)[x]? = w.heap[x]?
      rw [Array.getElem?_append_left (by simpa using hx), Array.getElem?_modify, if_neg (fun e => hxb e.symm)]
     ·show (w.heap.modify b (onCells (putCells id o Fl)) ++ os)[b]? = _
      rw [Array.getElem?_append_left (by simpa using hbl), Array.getElem?_modify, if_pos rfl, hb]
      rfl
     ·unfold putCells
      rw [Array.getElem?_mapIdx]
      by_cases hj : o ≤ j ∧ j < o + (sl.map enc).flatten.length
      ·have hjc : j < c.size := by omega
       rw [if_pos hj, Array.getElem?_eq_getElem hjc, Option.map_some, hF, if_pos hj, ← hFg _ (by omega)]
       have hjF : j - o < Fl.size := by omega
       rw [Array.getElem?_eq_getElem hjF, getElem!_pos Fl (j - o) hjF]; rfl
      ·rw [if_neg hj]
       cases hcj : c[j]? with
       | none => rfl
       | some v => rw [Option.map_some, hF, if_neg hj]
  ·cases h
 ·cases h
end Go.AM

/- The table of the functions. -/
namespace Go.AM
set_option linter.unusedVariables false
def tab : List (Nat × F) := [(n_c_law12_ValueKinds, F_c_law12_ValueKinds), (n_c_law12_awake, F_c_law12_awake), (n_c_law04_Own, F_c_law04_Own), (n_pile_Item_Canon, F_pile_Item_Canon), (n_pile_Sorted, F_pile_Sorted), (n_c_law12_Told, F_c_law12_Told), (n_value_Value_After, F_value_Value_After), (n_value_Of, F_value_Of), (n_cell_New, F_cell_New), (n_c_ref06_Legal, F_c_ref06_Legal), (n_value_Value_Same, F_value_Value_Same), (n_c_ref06_Check, F_c_ref06_Check), (n_c_ref12_Same, F_c_ref12_Same), (n_c_ref06_Of, F_c_ref06_Of), (n_cell_Memory_Read, F_cell_Memory_Read), (n_c_law03_F, F_c_law03_F), (n_real_Canon, F_real_Canon), (n_pile_New, F_pile_New), (n_pile_Pile_All, F_pile_Pile_All), (n_c_law04_Bits, F_c_law04_Bits), (n_op_Op_Check, F_op_Op_Check), (n_value_Value_without, F_value_Value_without), (n_c_ref12_same, F_c_ref12_same), (n_op_Legal, F_op_Legal), (n_value_bag, F_value_bag), (n_value_line, F_value_line), (n_value_sum, F_value_sum), (n_net_New, F_net_New), (n_net_Net_Out, F_net_Net_Out), (n_slices_EqualFunc_pile_Item_pile_Item_pile_Item_pile_Item_1, F_slices_EqualFunc_pile_Item_pile_Item_pile_Item_pile_Item_1), (n_value_Value_Same_1, F_value_Value_Same_1), (n_pile_Item_Cmp, F_pile_Item_Cmp), (n_cell_Value_Clone, F_cell_Value_Clone), (n_container_heap_Init, F_container_heap_Init), (n_pile_Pile_Take, F_pile_Pile_Take), (n_c_ref03_Bits, F_c_ref03_Bits), (n_op_Of, F_op_Of), (n_slices_IndexFunc_pile_Item_pile_Item, F_slices_IndexFunc_pile_Item_pile_Item), (n_value_Value_without_1, F_value_Value_without_1), (n_c_ref04_Cmp, F_c_ref04_Cmp), (n_cell_Memory_Len, F_cell_Memory_Len), (n_value_line_1, F_value_line_1), (n_wire_Make, F_wire_Make), (n_real_Cmp, F_real_Cmp), (n_container_heap_down, F_container_heap_down), (n_container_heap_Pop, F_container_heap_Pop), (n_c_ref03_Cmp, F_c_ref03_Cmp), (n_wire_Plan_count, F_wire_Plan_count), (n_real_Key, F_real_Key), (n_c_ref03_Key, F_c_ref03_Key), (n_wire_Plan_merge, F_wire_Plan_merge), (n_slices_xorshift_Next, F_slices_xorshift_Next), (n_wire_every, F_wire_every), (n_pile_items_Len, F_pile_items_Len), (n_pile_items_Less, F_pile_items_Less), (n_pile_items_Swap, F_pile_items_Swap), (n_pile_items_Pop, F_pile_items_Pop), (n_pile_items_Len_q, F_pile_items_Len_q), (n_pile_items_Less_q, F_pile_items_Less_q), (n_pile_items_Swap_q, F_pile_items_Swap_q)]
def methL : List (TypeId × String × FuncId) := [(t_pile_Item, "Canon", n_pile_Item_Canon), (t_pile_Item, "Cmp", n_pile_Item_Cmp), (t_pile_items_u, "Len", n_pile_items_Len_q), (t_pile_items_u, "Less", n_pile_items_Less_q), (t_pile_items_u, "Pop", n_pile_items_Pop), (t_pile_items_u, "Swap", n_pile_items_Swap_q)]
def libL : FuncId → List D → Option D := fun f ds => if f = 92 then delL ds else if f = 56 then clnL ds else none
def EE : En := ⟨fun f => look f tab, some 83, some 85, fun t nm => (methL.find? fun p => p.1 == t && p.2.1 == nm).map (·.2.2), libL, srtL⟩
theorem e_c_law12_ValueKinds : EE.fn n_c_law12_ValueKinds = some F_c_law12_ValueKinds := by kernel_rfl
theorem e_c_law04_Own : EE.fn n_c_law04_Own = some F_c_law04_Own := by kernel_rfl
theorem e_pile_Item_Canon : EE.fn n_pile_Item_Canon = some F_pile_Item_Canon := by kernel_rfl
theorem e_pile_Sorted : EE.fn n_pile_Sorted = some F_pile_Sorted := by kernel_rfl
theorem e_c_law12_Told : EE.fn n_c_law12_Told = some F_c_law12_Told := by kernel_rfl
theorem e_value_Value_After : EE.fn n_value_Value_After = some F_value_Value_After := by kernel_rfl
theorem e_value_Of : EE.fn n_value_Of = some F_value_Of := by kernel_rfl
theorem e_cell_New : EE.fn n_cell_New = some F_cell_New := by kernel_rfl
theorem e_c_ref06_Legal : EE.fn n_c_ref06_Legal = some F_c_ref06_Legal := by kernel_rfl
theorem e_value_Value_Same : EE.fn n_value_Value_Same = some F_value_Value_Same := by kernel_rfl
theorem e_c_ref06_Check : EE.fn n_c_ref06_Check = some F_c_ref06_Check := by kernel_rfl
theorem e_c_ref12_Same : EE.fn n_c_ref12_Same = some F_c_ref12_Same := by kernel_rfl
theorem e_c_ref06_Of : EE.fn n_c_ref06_Of = some F_c_ref06_Of := by kernel_rfl
theorem e_cell_Memory_Read : EE.fn n_cell_Memory_Read = some F_cell_Memory_Read := by kernel_rfl
theorem e_c_law03_F : EE.fn n_c_law03_F = some F_c_law03_F := by kernel_rfl
theorem e_real_Canon : EE.fn n_real_Canon = some F_real_Canon := by kernel_rfl
theorem e_pile_New : EE.fn n_pile_New = some F_pile_New := by kernel_rfl
theorem e_pile_Pile_All : EE.fn n_pile_Pile_All = some F_pile_Pile_All := by kernel_rfl
theorem e_c_law04_Bits : EE.fn n_c_law04_Bits = some F_c_law04_Bits := by kernel_rfl
theorem e_op_Op_Check : EE.fn n_op_Op_Check = some F_op_Op_Check := by kernel_rfl
theorem e_c_ref12_same : EE.fn n_c_ref12_same = some F_c_ref12_same := by kernel_rfl
theorem e_op_Legal : EE.fn n_op_Legal = some F_op_Legal := by kernel_rfl
theorem e_value_bag : EE.fn n_value_bag = some F_value_bag := by kernel_rfl
theorem e_value_line : EE.fn n_value_line = some F_value_line := by kernel_rfl
theorem e_value_sum : EE.fn n_value_sum = some F_value_sum := by kernel_rfl
theorem e_net_Net_Out : EE.fn n_net_Net_Out = some F_net_Net_Out := by kernel_rfl
theorem e_slices_EqualFunc_pile_Item_pile_Item_pile_Item_pile_Item_1 : EE.fn n_slices_EqualFunc_pile_Item_pile_Item_pile_Item_pile_Item_1 = some F_slices_EqualFunc_pile_Item_pile_Item_pile_Item_pile_Item_1 := by kernel_rfl
theorem e_value_Value_Same_1 : EE.fn n_value_Value_Same_1 = some F_value_Value_Same_1 := by kernel_rfl
theorem e_pile_Item_Cmp : EE.fn n_pile_Item_Cmp = some F_pile_Item_Cmp := by kernel_rfl
theorem e_cell_Value_Clone : EE.fn n_cell_Value_Clone = some F_cell_Value_Clone := by kernel_rfl
theorem e_container_heap_Init : EE.fn n_container_heap_Init = some F_container_heap_Init := by kernel_rfl
theorem e_pile_Pile_Take : EE.fn n_pile_Pile_Take = some F_pile_Pile_Take := by kernel_rfl
theorem e_c_ref03_Bits : EE.fn n_c_ref03_Bits = some F_c_ref03_Bits := by kernel_rfl
theorem e_op_Of : EE.fn n_op_Of = some F_op_Of := by kernel_rfl
theorem e_c_ref04_Cmp : EE.fn n_c_ref04_Cmp = some F_c_ref04_Cmp := by kernel_rfl
theorem e_cell_Memory_Len : EE.fn n_cell_Memory_Len = some F_cell_Memory_Len := by kernel_rfl
theorem e_real_Cmp : EE.fn n_real_Cmp = some F_real_Cmp := by kernel_rfl
theorem e_container_heap_down : EE.fn n_container_heap_down = some F_container_heap_down := by kernel_rfl
theorem e_container_heap_Pop : EE.fn n_container_heap_Pop = some F_container_heap_Pop := by kernel_rfl
theorem e_c_ref03_Cmp : EE.fn n_c_ref03_Cmp = some F_c_ref03_Cmp := by kernel_rfl
theorem e_real_Key : EE.fn n_real_Key = some F_real_Key := by kernel_rfl
theorem e_c_ref03_Key : EE.fn n_c_ref03_Key = some F_c_ref03_Key := by kernel_rfl
theorem e_pile_items_Pop : EE.fn n_pile_items_Pop = some F_pile_items_Pop := by kernel_rfl
theorem e_pile_items_Len_q : EE.fn n_pile_items_Len_q = some F_pile_items_Len_q := by kernel_rfl
theorem e_pile_items_Less_q : EE.fn n_pile_items_Less_q = some F_pile_items_Less_q := by kernel_rfl
theorem e_pile_items_Swap_q : EE.fn n_pile_items_Swap_q = some F_pile_items_Swap_q := by kernel_rfl
end Go.AM
