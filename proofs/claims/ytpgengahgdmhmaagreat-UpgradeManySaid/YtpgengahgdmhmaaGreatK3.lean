/- Lemmas: an abstract machine over the loaded program, proved sound against the model once; what the program's functions compute. -/
import Derived.Test.YtpgengahgdmhmaaGreatK0
import Derived.KernelRfl
set_option linter.all false
/- The functions of the program, as the abstract machine takes them: printed by gen2.py. -/
namespace Go.AM
set_option linter.unusedVariables false
abbrev I.o (d : Nat) (e : O) : I := ⟨some d, none, e, [], 0⟩
abbrev I.s (e : O) : I := ⟨none, none, e, [], 0⟩
abbrev I.c (n : Nat) (b : Bool) (d : Nat) (e : O) : I := ⟨some d, some (n, b), e, [], 0⟩
abbrev I.z (d : Nat) (e : O) (z : Nat) : I := ⟨some d, none, e, [], z⟩
abbrev I.u (d : Nat) (e : O) (un : List Nat) (z : Nat) : I := ⟨some d, none, e, un, z⟩
def t_pile_Item : TypeId := 80
def t_pile_items_u : TypeId := 175

def n_c_law22_UpgradeMany : FuncId := 7
def n_c_ref21_Write : FuncId := 10
def n_c_law17_Told : FuncId := 11
def n_c_law17_Make : FuncId := 12
def n_c_ref02_Seal : FuncId := 13
def n_elder_Read : FuncId := 15
def n_elder_Write : FuncId := 16
def n_image_Image_Value : FuncId := 17
def n_c_law22_awake : FuncId := 20
def n_upgrade_All : FuncId := 21
def n_upgrade_Step : FuncId := 22
def n_upgrade_Many : FuncId := 23
def n_c_ref22_All : FuncId := 24
def n_file_Decode : FuncId := 25
def n_elder_Version : FuncId := 26
def n_c_ref01_Num2 : FuncId := 27
def n_c_ref17_Value : FuncId := 28
def n_c_ref01_Fixed : FuncId := 29
def n_c_ref01_Int : FuncId := 30
def n_c_ref19_Meta : FuncId := 31
def n_c_ref19_Data : FuncId := 32
def n_c_ref20_Encode : FuncId := 33
def n_c_law04_Bits : FuncId := 34
def n_c_law12_Kind : FuncId := 35
def n_c_law04_Own : FuncId := 36
def n_pile_Item_Canon : FuncId := 37
def n_c_law17_sorted : FuncId := 38
def n_c_ref02_Word : FuncId := 39
def n_c_ref02_Sum : FuncId := 40
def n_c_ref21_Read : FuncId := 41
def n_elder_read : FuncId := 43
def n_image_Image_Check : FuncId := 44
def n_elder_one : FuncId := 45
def n_crc_Make : FuncId := 46
def n_crc_Table_Seal : FuncId := 47
def n_elder_two : FuncId := 48
def n_elder_three : FuncId := 49
def n_file_Encode : FuncId := 50
def n_pile_Sorted : FuncId := 51
def n_pile_Item_Cmp : FuncId := 54
def n_file_reader_begin : FuncId := 59
def n_file_reader_sections : FuncId := 60
def n_section_Read : FuncId := 61
def n_strings_HasPrefix : FuncId := 62
def n_c_ref04_With : FuncId := 63
def n_c_ref19_Items : FuncId := 64
def n_c_ref20_word : FuncId := 65
def n_c_ref20_entry : FuncId := 66
def n_c_ref03_Bits : FuncId := 67
def n_c_law03_F : FuncId := 69
def n_real_Canon : FuncId := 70
def n_c_ref02_Bits : FuncId := 71
def n_c_ref21_Version : FuncId := 72
def n_c_ref20_Decode : FuncId := 73
def n_c_ref21_parse : FuncId := 74
def n_c_ref17_Check : FuncId := 75
def n_crc_Table_Open : FuncId := 78
def n_elder_parse : FuncId := 79
def n_op_Legal : FuncId := 80
def n_image_Shape : FuncId := 81
def n_image_order : FuncId := 82
def n_octet_Num : FuncId := 83
def n_octet_Long : FuncId := 84
def n_octet_Word : FuncId := 85
def n_crc_Table_Sum : FuncId := 86
def n_octet_Int : FuncId := 87
def n_section_Of : FuncId := 88
def n_pile_New : FuncId := 89
def n_pile_Pile_All : FuncId := 90
def n_real_Cmp : FuncId := 91
def n_octet_Of : FuncId := 92
def n_octet_In_Bytes : FuncId := 93
def n_octet_In_Byte : FuncId := 94
def n_octet_In_Word : FuncId := 95
def n_octet_In_Err : FuncId := 96
def n_octet_In_Num : FuncId := 97
def n_octet_In_End : FuncId := 98
def n_section_read : FuncId := 99
def n_internal_stringslite_HasPrefix : FuncId := 100
def n_c_ref04_Cmp : FuncId := 101
def n_c_ref03_Key : FuncId := 102
def n_c_ref20_number : FuncId := 104
def n_c_ref19_Read : FuncId := 105
def n_c_ref01_Whole : FuncId := 106
def n_c_ref21_third : FuncId := 107
def n_c_ref01_Number : FuncId := 108
def n_c_ref06_Legal : FuncId := 109
def n_c_ref21_first : FuncId := 110
def n_c_ref21_second : FuncId := 111
def n_op_Of : FuncId := 113
def n_elder_third : FuncId := 114
def n_elder_first : FuncId := 115
def n_elder_second : FuncId := 116
def n_octet_fixed_uint64 : FuncId := 117
def n_octet_fixed_uint32 : FuncId := 118
def n_crc_Table_More : FuncId := 119
def n_section_meta : FuncId := 120
def n_section_data : FuncId := 121
def n_container_heap_Init : FuncId := 122
def n_pile_Pile_Take : FuncId := 123
def n_real_Key : FuncId := 124
def n_octet_In_fail : FuncId := 125
def n_section_take : FuncId := 126
def n_c_ref03_Cmp : FuncId := 127
def n_c_ref19_end : FuncId := 128
def n_c_ref19_items : FuncId := 129
def n_c_ref01_Bytes : FuncId := 130
def n_c_ref21_end : FuncId := 131
def n_c_ref01_fail : FuncId := 132
def n_c_ref04_Make : FuncId := 133
def n_c_ref21_signed : FuncId := 134
def n_c_ref04_Sorted : FuncId := 135
def n_c_ref01_Signed : FuncId := 136
def n_elder_flat : FuncId := 137
def n_spread_Deal : FuncId := 138
def n_elder_total : FuncId := 139
def n_wire_Even : FuncId := 140
def n_octet_In_Long : FuncId := 141
def n_elder_item : FuncId := 142
def n_octet_In_Int : FuncId := 143
def n_section_Items : FuncId := 144
def n_container_heap_down : FuncId := 145
def n_container_heap_Pop : FuncId := 146
def n_real_Back : FuncId := 147
def n_c_ref19_float : FuncId := 148
def n_pile_items_Len : FuncId := 166
def n_pile_items_Less : FuncId := 167
def n_pile_items_Swap : FuncId := 168
def n_pile_items_Pop : FuncId := 169
def n_pile_items_Len_q : FuncId := 1000166
def n_pile_items_Less_q : FuncId := 1000167
def n_pile_items_Swap_q : FuncId := 1000168
def F_c_law22_UpgradeMany : F := ⟨4,[.inl 8],
 (.seq (.reg [.zz 0,.zz 1] [.o 8 (.mv (.c (.b false)))] false [0,1,2,3] [])
 (.seq (.seq (.reg [] [.o 21 (.call n_c_law22_awake []),
 .o 22 (.un .not (.k 21))] false [0,1,2,3,22] [])
 (.cond 22 (.seq (.reg [] [.o 8 (.mv (.c (.b false)))] false [8] [])
 .ret)
 .skip))
 (.seq (.reg [] [.z 23 (.bs 1 0 (.s ⟨#[]⟩) []) 1,
 .o 9 (.mv (.k 23))] false [0,1,2,3,9] [])
 (.seq (.seq (.reg [] [.o 10 (.mv (.c (.i .i64 0)))] false [0,1,2,3,9,10] [])
 (.blk 0 (.loop (.seq (.seq (.reg [] [.o 24 (.mv (.t 10)),
 .o 25 (.mv (.t 0)),
 .o 26 (.len false (.k 25)),
 .o 27 (.bin .lss (.k 24) (.k 26)),
 .o 28 (.mv (.k 27)),
 .c 28 true 29 (.mv (.t 10)),
 .c 28 true 30 (.bin .lss (.k 29) (.c (.i .i64 6))),
 .o 31 (.pick (.k 28) (.k 30) (.c (.b false)))] false [0,1,2,3,9,10,31] [])
 (.cond 31 .skip
 (.exit 0)))
 (.seq (.blk 1 (.seq (.reg [] [.o 11 (.mv (.c (.i .i64 1)))] false [0,1,2,3,9,10,11] [])
 (.seq (.seq (.reg [] [.o 34 (.mv (.t 10)),
 .o 35 (.mv (.t 1)),
 .o 36 (.len false (.k 35)),
 .o 37 (.bin .lss (.k 34) (.k 36))] false [0,1,2,3,9,10,11,37] [])
 (.cond 37 (.reg [] [.o 38 (.mv (.t 1)),
 .o 39 (.mv (.t 10)),
 .o 40 (.ia 1 none (.k 38) (.k 39)),
 .o 41 (.ld false 1 .cp (.k 40)),
 .o 42 (.bin .and (.k 41) (.c (.i .i64 255))),
 .o 43 (.bin .rem (.k 42) (.c (.i .i64 4))),
 .o 44 (.bin .add (.c (.i .i64 1)) (.k 43)),
 .o 11 (.mv (.k 44))] false [0,1,2,3,9,10,11] [])
 .skip))
 (.seq (.reg [] [.o 45 (.mv (.t 0)),
 .o 46 (.mv (.t 10)),
 .o 47 (.ia 6 none (.k 45) (.k 46)),
 .z 48 (.ld true 6 .cp (.k 47)) 2,
 .z 49 (.call n_c_law17_Make [.k 48]) 2,
 .z 50 (.call n_c_law17_Told [.k 49]) 2,
 .o 51 (.mv (.k 11)),
 .o 52 (.call n_c_ref21_Write [.k 50,.k 51]),
 .o 12 (.mv (.k 52))] false [0,1,2,3,9,10,12] [])
 (.seq (.seq (.reg [] [.o 53 (.mv (.t 10)),
 .o 54 (.mv (.t 2)),
 .o 55 (.bin .eql (.k 53) (.k 54))] false [0,1,2,3,9,10,12,55] [])
 (.cond 55 (.seq (.reg [] [.o 56 (.mv (.k 12)),
 .o 57 (.cv .bytes (.k 56)),
 .o 13 (.mv (.k 57))] false [0,1,2,3,9,10,13] [13])
 (.seq (.reg [.thaw 13] [.o 58 (.mv (.t 13)),
 .o 59 (.mv (.t 3)),
 .o 60 (.mv (.t 13)),
 .o 61 (.len false (.k 60)),
 .o 62 (.bin .rem (.k 59) (.k 61)),
 .o 63 (.mv (.t 13)),
 .o 64 (.len false (.k 63)),
 .o 65 (.bin .add (.k 62) (.k 64)),
 .o 66 (.mv (.t 13)),
 .o 67 (.len false (.k 66)),
 .o 68 (.bin .rem (.k 65) (.k 67)),
 .o 69 (.ia 1 none (.t 58) (.t 68)),
 .o 70 (.ld false 1 .cp (.k 69)),
 .o 71 (.bin .xor (.k 70) (.c (.i .u8 64))),
 .o 72 (.ia 1 none (.k 58) (.k 68)),
 .s (.st 1 (.k 72) (.k 71))] false [0,1,2,3,9,10,13] [13])
 (.reg [.unth 13] [.o 73 (.mv (.k 13)),
 .o 74 (.cv .str (.k 73)),
 .o 12 (.mv (.k 74))] false [0,1,2,3,9,10,12] [])))
 .skip))
 (.reg [] [.o 75 (.mv (.k 9)),
 .o 76 (.mv (.k 12)),
 .o 77 (.bs 1 1 (.s ⟨#[]⟩) [(0,.k 76)]),
 .z 78 (.app 1 16 (.k 75) (.k 77)) 1,
 .o 9 (.mv (.k 78))] false [0,1,2,3,9,10] []))))))
 (.reg [] [.o 32 (.mv (.k 10)),
 .o 33 (.bin .add (.k 32) (.c (.i .i64 1))),
 .o 10 (.mv (.k 33))] false [0,1,2,3,9,10] []))))))
 (.seq (.reg [] [.z 80 (.mv (.t 9)) 2,
 .o 81 (.call n_upgrade_Many [.k 80]),
 .o 79 (.mv (.k 81)),
 .o 82 (.ex false 0 79),
 .o 83 (.ex false 1 79),
 .o 84 (.ex false 2 79),
 .o 14 (.mv (.k 82)),
 .o 15 (.mv (.k 83)),
 .o 16 (.mv (.k 84))] false [9,14,15,16] [])
 (.seq (.seq (.reg [] [.o 85 (.mv (.t 9)),
 .o 86 (.len false (.t 85)),
 .o 87 (.mv (.c (.i .i64 0)))] false [9,14,15,16,85,86,87] [])
 (.blk 2 (.loop (.seq (.reg [] [.o 88 (.bin .lss (.t 87) (.t 86))] false [9,14,15,16,85,86,87,88] [])
 (.seq (.cond 88 .skip
 (.exit 2))
 (.seq (.blk 3 (.seq (.reg [] [.o 89 (.mv (.t 87)),
 .o 90 (.ia 1 none (.t 85) (.t 87)),
 .o 91 (.ld false 1 .cp (.k 90)),
 .o 17 (.mv (.k 89)),
 .o 18 (.mv (.k 91))] false [9,14,15,16,17,18,85,86,87] [])
 (.seq (.reg [] [.o 93 (.mv (.k 18)),
 .o 94 (.call n_c_ref22_All [.k 93]),
 .o 92 (.mv (.k 94)),
 .o 95 (.ex false 0 92),
 .o 96 (.ex false 1 92),
 .o 19 (.mv (.k 95)),
 .o 20 (.mv (.k 96))] false [9,14,15,16,17,19,20,85,86,87] [])
 (.seq (.seq (.reg [] [.o 97 (.mv (.t 20)),
 .o 98 (.bin .neq (.k 97) (.c (.i .i64 0)))] false [9,14,15,16,17,19,20,85,86,87,98] [])
 (.cond 98 (.seq (.reg [] [.o 99 (.mv (.k 15)),
 .o 100 (.mv (.t 17)),
 .o 101 (.bin .eql (.k 99) (.k 100)),
 .o 102 (.mv (.k 101)),
 .c 102 true 103 (.mv (.k 16)),
 .c 102 true 104 (.mv (.k 20)),
 .c 102 true 105 (.bin .eql (.k 103) (.k 104)),
 .o 106 (.pick (.k 102) (.k 105) (.c (.b false))),
 .o 107 (.mv (.k 106)),
 .c 107 true 108 (.mv (.k 14)),
 .c 107 true 109 (.len false (.k 108)),
 .c 107 true 110 (.mv (.k 17)),
 .c 107 true 111 (.bin .eql (.k 109) (.k 110)),
 .o 112 (.pick (.k 107) (.k 111) (.c (.b false))),
 .o 8 (.mv (.k 112))] false [8] [])
 .ret)
 .skip))
 (.seq (.reg [] [.o 113 (.mv (.t 17)),
 .o 114 (.mv (.t 14)),
 .o 115 (.len false (.k 114)),
 .o 116 (.bin .geq (.k 113) (.k 115)),
 .o 117 (.mv (.k 116)),
 .c 117 false 118 (.mv (.t 14)),
 .c 117 false 119 (.mv (.k 17)),
 .c 117 false 120 (.ia 1 none (.k 118) (.k 119)),
 .c 117 false 121 (.ld false 1 .cp (.k 120)),
 .c 117 false 122 (.mv (.k 19)),
 .c 117 false 123 (.bin .neq (.k 121) (.k 122)),
 .o 124 (.pick (.k 117) (.c (.b true)) (.k 123))] false [9,14,15,16,85,86,87,124] [])
 (.cond 124 (.seq (.reg [] [.o 8 (.mv (.c (.b false)))] false [8] [])
 .ret)
 .skip))))))
 (.reg [] [.o 125 (.bin .add (.k 87) (.c (.i .i64 1))),
 .o 87 (.mv (.k 125))] false [9,14,15,16,85,86,87] [])))))))
 (.seq (.reg [] [.o 126 (.mv (.k 15)),
 .o 127 (.bin .eql (.k 126) (.c (.i .i64 (-1)))),
 .o 128 (.mv (.k 127)),
 .c 128 true 129 (.mv (.k 16)),
 .c 128 true 130 (.bin .eql (.k 129) (.c (.i .i64 0))),
 .o 131 (.pick (.k 128) (.k 130) (.c (.b false))),
 .o 132 (.mv (.k 131)),
 .c 132 true 133 (.mv (.k 14)),
 .c 132 true 134 (.len false (.k 133)),
 .c 132 true 135 (.mv (.k 9)),
 .c 132 true 136 (.len false (.k 135)),
 .c 132 true 137 (.bin .eql (.k 134) (.k 136)),
 .o 138 (.pick (.k 132) (.k 137) (.c (.b false))),
 .o 8 (.mv (.k 138))] false [8] [])
 .ret)))))))⟩

def F_c_ref21_Write : F := ⟨2,[.inl 4],
 (.seq (.reg [.zz 0] [.o 2 (.bx (.k 0)),
 .o 4 (.mv (.c (.s ⟨#[]⟩)))] false [1,2] [2])
 (.seq (.reg [] [.o 17 (.mv (.t 1)),
 .o 18 (.cv (.int .u8) (.k 17)),
 .o 19 (.fa 0 (.t 2)),
 .o 20 (.ld false 1 .cp (.k 19)),
 .o 21 (.cv (.int .u8) (.k 20)),
 .z 22 (.bs 1 2 (.i .u8 0) [(0,.k 18),(1,.k 21)]) 1,
 .o 23 (.cv .str (.k 22)),
 .o 24 (.bin .add (.c (.s ⟨#[67,82,89,79]⟩)) (.k 23)),
 .o 5 (.mv (.k 24))] false [1,2,5] [2])
 (.seq (.seq (.reg [] [.o 25 (.mv (.k 1))] false [2,5,25] [2])
 (.blk 0 (.seq (.reg [] [.o 27 (.bin .eql (.t 25) (.c (.i .i64 1))),
 .o 26 (.mv (.k 27))] false [2,5,25,26] [2])
 (.cond 26 (.seq (.reg [] [.o 28 (.mv (.k 5)),
 .o 29 (.fa 1 (.t 2)),
 .o 30 (.ld false 1 .cp (.k 29)),
 .o 31 (.cv (.int .u64) (.k 30)),
 .o 32 (.call n_c_ref01_Num2 [.k 31]),
 .o 33 (.bin .add (.k 28) (.k 32)),
 .o 5 (.mv (.k 33))] false [2,5] [2])
 (.seq (.reg [] [.z 34 (.ld true 5 .cp (.t 2)) 2,
 .o 35 (.call n_c_ref17_Value [.k 34]),
 .o 6 (.al ([.i .i64 0,.l .o 2 [],.i .i64 0])),
 .s (.st 3 (.t 6) (.k 35))] false [2,5,6] [2,6])
 (.seq (.seq (.reg [] [.o 36 (.fa 0 (.k 2)),
 .o 37 (.ld false 1 .cp (.k 36)),
 .o 38 (.bin .gtr (.k 37) (.c (.i .i64 2)))] false [5,6,38] [6])
 (.cond 38 (.seq (.reg [] [.o 39 (.mv (.k 5)),
 .o 40 (.fa 2 (.k 6)),
 .o 41 (.ld false 1 .cp (.k 40)),
 .o 42 (.cv (.int .u64) (.k 41)),
 .o 43 (.call n_c_ref01_Fixed [.k 42,.c (.i .i64 8)]),
 .o 44 (.bin .add (.k 39) (.k 43)),
 .o 4 (.mv (.k 44))] false [4] [])
 .ret)
 .skip))
 (.seq (.reg [] [.o 45 (.mv (.k 5)),
 .o 46 (.fa 1 (.t 6)),
 .o 47 (.ld false 1 .cp (.k 46)),
 .o 48 (.len false (.k 47)),
 .o 49 (.cv (.int .u64) (.k 48)),
 .o 50 (.call n_c_ref01_Fixed [.k 49,.c (.i .i64 4)]),
 .o 51 (.bin .add (.k 45) (.k 50)),
 .o 5 (.mv (.k 51))] false [5,6] [6])
 (.seq (.seq (.reg [] [.o 52 (.fa 1 (.k 6)),
 .o 53 (.ld false 1 .tk (.k 52)),
 .o 54 (.len false (.t 53)),
 .o 55 (.mv (.c (.i .i64 0)))] false [5,53,54,55] [])
 (.blk 1 (.loop (.seq (.reg [] [.o 56 (.bin .lss (.t 55) (.t 54))] false [5,53,54,55,56] [])
 (.seq (.cond 56 .skip
 (.exit 1))
 (.seq (.blk 2 (.seq (.reg [] [.o 57 (.ia 2 none (.t 53) (.t 55)),
 .o 58 (.ld true 2 .cp (.k 57)),
 .o 8 (.al ([.i .u64 0,.i .i64 0])),
 .s (.st 2 (.t 8) (.k 58))] false [5,8,53,54,55] [8])
 (.reg [] [.o 59 (.mv (.k 5)),
 .u 60 (.fa 0 (.t 8)) [0] 0,
 .u 61 (.ld false 1 .cp (.k 60)) [0] 0,
 .u 62 (.call n_c_ref01_Fixed [.k 61,.c (.i .i64 8)]) [0] 0,
 .u 63 (.fa 1 (.t 8)) [0,1,2,3] 0,
 .u 64 (.ld false 1 .cp (.k 63)) [0,1,2,3] 0,
 .u 65 (.cv (.int .u64) (.k 64)) [0,1,2,3] 0,
 .u 66 (.call n_c_ref01_Fixed [.k 65,.c (.i .i64 8)]) [0] 0,
 .u 67 (.bin .add (.k 62) (.k 66)) [0] 0,
 .o 68 (.bin .add (.k 59) (.k 67)),
 .o 5 (.mv (.k 68))] true [5,53,54,55] [])))
 (.reg [] [.o 69 (.bin .add (.k 55) (.c (.i .i64 1))),
 .o 55 (.mv (.k 69))] false [5,53,54,55] [])))))))
 (.seq (.reg [] [.o 70 (.mv (.k 5)),
 .o 4 (.mv (.k 70))] false [4] [])
 .ret))))))
 (.seq (.reg [] [.o 72 (.bin .eql (.t 25) (.c (.i .i64 2))),
 .o 71 (.mv (.k 72))] false [2,5,25,71] [2])
 (.cond 71 (.seq (.reg [] [.o 73 (.mv (.k 5)),
 .o 74 (.fa 1 (.t 2)),
 .o 75 (.ld false 1 .cp (.k 74)),
 .o 76 (.cv (.int .u64) (.k 75)),
 .o 77 (.call n_c_ref01_Num2 [.k 76]),
 .o 78 (.bin .add (.k 73) (.k 77)),
 .o 5 (.mv (.k 78))] false [2,5] [2])
 (.seq (.seq (.reg [] [.o 79 (.fa 3 (.t 2)),
 .o 80 (.ld false 1 .cp (.k 79)),
 .o 81 (.len false (.t 80)),
 .o 82 (.mv (.c (.i .i64 0)))] false [2,5,80,81,82] [2])
 (.blk 3 (.loop (.seq (.reg [] [.o 83 (.bin .lss (.t 82) (.t 81))] false [2,5,80,81,82,83] [2])
 (.seq (.cond 83 .skip
 (.exit 3))
 (.seq (.blk 4 (.seq (.reg [] [.o 84 (.ia 1 none (.t 80) (.t 82)),
 .o 85 (.ld false 1 .cp (.k 84)),
 .o 10 (.mv (.k 85))] false [2,5,10,80,81,82] [2])
 (.seq (.reg [] [.o 86 (.mv (.k 5)),
 .o 87 (.mv (.t 10)),
 .o 88 (.len false (.k 87)),
 .o 89 (.cv (.int .u64) (.k 88)),
 .o 90 (.call n_c_ref01_Num2 [.k 89]),
 .o 91 (.bin .add (.k 86) (.k 90)),
 .o 5 (.mv (.k 91))] false [2,5,10,80,81,82] [2])
 (.seq (.reg [] [.o 92 (.mv (.k 10)),
 .o 93 (.len false (.t 92)),
 .o 94 (.mv (.c (.i .i64 0)))] false [2,5,80,81,82,92,93,94] [2])
 (.blk 5 (.loop (.seq (.reg [] [.o 95 (.bin .lss (.t 94) (.t 93))] false [2,5,80,81,82,92,93,94,95] [2])
 (.seq (.cond 95 .skip
 (.exit 5))
 (.seq (.blk 6 (.seq (.reg [] [.o 96 (.ia 2 none (.t 92) (.t 94)),
 .o 97 (.ld true 2 .cp (.k 96)),
 .o 12 (.al ([.i .u64 0,.i .i64 0])),
 .s (.st 2 (.t 12) (.k 97))] false [2,5,12,80,81,82,92,93,94] [2,12])
 (.reg [] [.o 98 (.mv (.k 5)),
 .u 99 (.fa 0 (.t 12)) [0] 0,
 .u 100 (.ld false 1 .cp (.k 99)) [0] 0,
 .u 101 (.call n_c_ref01_Fixed [.k 100,.c (.i .i64 8)]) [0] 0,
 .u 102 (.fa 1 (.t 12)) [0,1,2,3] 0,
 .u 103 (.ld false 1 .cp (.k 102)) [0,1,2,3] 0,
 .u 104 (.call n_c_ref01_Int [.k 103]) [0] 0,
 .u 105 (.bin .add (.k 101) (.k 104)) [0] 0,
 .o 106 (.bin .add (.k 98) (.k 105)),
 .o 5 (.mv (.k 106))] true [2,5,80,81,82,92,93,94] [2])))
 (.reg [] [.o 107 (.bin .add (.k 94) (.c (.i .i64 1))),
 .o 94 (.mv (.k 107))] false [2,5,80,81,82,92,93,94] [2]))))))))))
 (.reg [] [.o 108 (.bin .add (.k 82) (.c (.i .i64 1))),
 .o 82 (.mv (.k 108))] false [2,5,80,81,82] [2])))))))
 (.seq (.seq (.reg [] [.o 109 (.fa 4 (.k 2)),
 .o 110 (.ld false 1 .tk (.k 109)),
 .o 111 (.len false (.t 110)),
 .o 112 (.mv (.c (.i .i64 0)))] false [5,110,111,112] [])
 (.blk 7 (.loop (.seq (.reg [] [.o 113 (.bin .lss (.t 112) (.t 111))] false [5,110,111,112,113] [])
 (.seq (.cond 113 .skip
 (.exit 7))
 (.seq (.blk 8 (.seq (.reg [] [.o 114 (.ia 1 none (.t 110) (.t 112)),
 .o 115 (.ld false 1 .cp (.k 114)),
 .o 14 (.mv (.k 115))] false [5,14,110,111,112] [])
 (.reg [] [.o 116 (.mv (.k 5)),
 .o 117 (.mv (.k 14)),
 .o 118 (.cv (.int .u64) (.k 117)),
 .o 119 (.call n_c_ref01_Num2 [.k 118]),
 .o 120 (.bin .add (.k 116) (.k 119)),
 .o 5 (.mv (.k 120))] false [5,110,111,112] [])))
 (.reg [] [.o 121 (.bin .add (.k 112) (.c (.i .i64 1))),
 .o 112 (.mv (.k 121))] false [5,110,111,112] [])))))))
 (.seq (.reg [] [.o 122 (.mv (.k 5)),
 .o 123 (.call n_c_ref02_Seal [.k 122]),
 .o 4 (.mv (.k 123))] false [4] [])
 .ret))))
 (.seq (.reg [] [.o 125 (.bin .eql (.k 25) (.c (.i .i64 3))),
 .o 124 (.mv (.k 125))] false [2,5,124] [2])
 (.cond 124 (.seq (.reg [] [.z 126 (.ld true 5 .cp (.t 2)) 2,
 .o 127 (.call n_c_ref19_Meta [.k 126]),
 .u 128 (.ld true 5 .cp (.t 2)) [0,1] 2,
 .o 129 (.call n_c_ref19_Data [.k 128]),
 .o 15 (.mv (.k 127)),
 .o 16 (.mv (.k 129))] true [5,15,16] [])
 (.seq (.reg [] [.o 130 (.mv (.k 5)),
 .o 131 (.mv (.t 15)),
 .o 132 (.len true (.k 131)),
 .o 133 (.cv (.int .u64) (.k 132)),
 .o 134 (.call n_c_ref01_Fixed [.k 133,.c (.i .i64 4)]),
 .o 135 (.bin .add (.c (.s ⟨#[2,1]⟩)) (.k 134)),
 .o 136 (.bin .add (.k 135) (.c (.s ⟨#[2]⟩))),
 .o 137 (.mv (.t 16)),
 .o 138 (.len true (.k 137)),
 .o 139 (.cv (.int .u64) (.k 138)),
 .o 140 (.call n_c_ref01_Fixed [.k 139,.c (.i .i64 4)]),
 .o 141 (.bin .add (.k 136) (.k 140)),
 .o 142 (.mv (.k 15)),
 .o 143 (.bin .add (.k 141) (.k 142)),
 .o 144 (.mv (.k 16)),
 .o 145 (.bin .add (.k 143) (.k 144)),
 .o 146 (.bin .add (.k 130) (.k 145)),
 .o 5 (.mv (.k 146))] false [5] [])
 (.seq (.reg [] [.o 147 (.mv (.k 5)),
 .o 148 (.call n_c_ref02_Seal [.k 147]),
 .o 4 (.mv (.k 148))] false [4] [])
 .ret)))
 .skip))))))))
 (.seq (.reg [] [.z 149 (.ld true 5 .tk (.k 2)) 2,
 .o 150 (.call n_c_ref20_Encode [.k 149]),
 .o 4 (.mv (.k 150))] false [4] [])
 .ret))))⟩

def F_c_law17_Told : F := ⟨1,[.inr (2,true,5)],
 (.seq (.reg [.zz 0] [.o 1 (.bx (.k 0)),
 .o 2 (.al ([.i .i64 0,.i .i64 0,.i .u64 0,.l .o 1 [],.l .o 1 []]))] false [1,2] [1,2])
 (.seq (.reg [] [.o 11 (.fa 0 (.t 1)),
 .o 12 (.ld false 1 .cp (.k 11)),
 .o 13 (.fa 1 (.t 1)),
 .o 14 (.ld false 1 .cp (.k 13)),
 .o 15 (.fa 2 (.t 1)),
 .o 16 (.ld false 1 .cp (.k 15)),
 .o 17 (.bd ([.i .i64 0,.i .i64 0,.i .u64 0,.l .o 1 [],.l .o 1 []]) [(0,1,.k 12),(1,1,.k 14),(2,1,.k 16)]),
 .o 3 (.al ([.i .i64 0,.i .i64 0,.i .u64 0,.l .o 1 [],.l .o 1 []])),
 .s (.st 5 (.t 3) (.k 17))] false [1,2,3] [1,2,3])
 (.seq (.seq (.reg [] [.o 18 (.fa 3 (.t 1)),
 .o 19 (.ld false 1 .cp (.k 18)),
 .o 20 (.len false (.t 19)),
 .o 21 (.mv (.c (.i .i64 0)))] false [1,2,3,19,20,21] [1,2,3])
 (.blk 0 (.loop (.seq (.reg [] [.o 22 (.bin .lss (.t 21) (.t 20))] false [1,2,3,19,20,21,22] [1,2,3])
 (.seq (.cond 22 .skip
 (.exit 0))
 (.seq (.blk 1 (.seq (.reg [] [.o 23 (.ia 1 none (.t 19) (.t 21)),
 .o 24 (.ld false 1 .cp (.k 23)),
 .o 5 (.mv (.k 24))] false [1,2,3,5,19,20,21] [1,2,3])
 (.seq (.reg [] [.z 25 (.bs 2 0 (.a ([.i .u64 0,.i .i64 0])) []) 1,
 .o 6 (.mv (.k 25))] false [1,2,3,5,6,19,20,21] [1,2,3])
 (.seq (.seq (.reg [] [.o 26 (.mv (.k 5)),
 .o 27 (.len false (.t 26)),
 .o 28 (.mv (.c (.i .i64 0)))] false [1,2,3,6,19,20,21,26,27,28] [1,2,3])
 (.blk 2 (.loop (.seq (.reg [] [.o 29 (.bin .lss (.t 28) (.t 27))] false [1,2,3,6,19,20,21,26,27,28,29] [1,2,3])
 (.seq (.cond 29 .skip
 (.exit 2))
 (.seq (.blk 3 (.seq (.reg [] [.o 30 (.ia 2 none (.t 26) (.t 28)),
 .o 31 (.ld true 2 .cp (.k 30)),
 .o 8 (.al ([.f .f64 0,.i .i64 0])),
 .s (.st 2 (.t 8) (.k 31))] false [1,2,3,6,8,19,20,21,26,27,28] [1,2,3,8])
 (.reg [] [.o 32 (.mv (.k 6)),
 .u 33 (.ld true 2 .cp (.t 8)) [0] 0,
 .u 34 (.call n_c_law04_Bits [.k 33]) [0] 0,
 .u 35 (.fa 1 (.t 8)) [0,1,2] 0,
 .u 36 (.ld false 1 .cp (.k 35)) [0,1,2] 0,
 .u 37 (.bd ([.i .u64 0,.i .i64 0]) [(0,1,.k 34),(1,1,.k 36)]) [0] 0,
 .u 38 (.bs 2 1 (.a ([.i .u64 0,.i .i64 0])) [(0,.k 37)]) [0] 0,
 .z 39 (.app 2 16 (.k 32) (.k 38)) 1,
 .o 6 (.mv (.k 39))] true [1,2,3,6,19,20,21,26,27,28] [1,2,3])))
 (.reg [] [.o 40 (.bin .add (.k 28) (.c (.i .i64 1))),
 .o 28 (.mv (.k 40))] false [1,2,3,6,19,20,21,26,27,28] [1,2,3])))))))
 (.reg [] [.o 41 (.fa 3 (.t 3)),
 .o 42 (.ld false 1 .tk (.k 41)),
 .o 43 (.mv (.k 6)),
 .o 44 (.bs 1 1 (.l .o 2 []) [(0,.k 43)]),
 .z 45 (.app 1 24 (.k 42) (.k 44)) 1,
 .o 46 (.fa 3 (.t 3)),
 .s (.st 1 (.k 46) (.k 45))] false [1,2,3,19,20,21] [1,2,3])))))
 (.reg [] [.o 47 (.bin .add (.k 21) (.c (.i .i64 1))),
 .o 21 (.mv (.k 47))] false [1,2,3,19,20,21] [1,2,3])))))))
 (.seq (.seq (.reg [] [.o 48 (.fa 4 (.k 1)),
 .o 49 (.ld false 1 .tk (.k 48)),
 .o 50 (.len false (.t 49)),
 .o 51 (.mv (.c (.i .i64 0)))] false [2,3,49,50,51] [2,3])
 (.blk 4 (.loop (.seq (.reg [] [.o 52 (.bin .lss (.t 51) (.t 50))] false [2,3,49,50,51,52] [2,3])
 (.seq (.cond 52 .skip
 (.exit 4))
 (.seq (.blk 5 (.seq (.reg [] [.o 53 (.ia 1 none (.t 49) (.t 51)),
 .o 54 (.ld false 1 .cp (.k 53)),
 .o 10 (.mv (.k 54))] false [2,3,10,49,50,51] [2,3])
 (.reg [] [.o 55 (.fa 4 (.t 3)),
 .o 56 (.ld false 1 .tk (.k 55)),
 .o 57 (.mv (.k 10)),
 .o 58 (.bs 1 1 (.i .i64 0) [(0,.k 57)]),
 .z 59 (.app 1 8 (.k 56) (.k 58)) 1,
 .o 60 (.fa 4 (.t 3)),
 .s (.st 1 (.k 60) (.k 59))] false [2,3,49,50,51] [2,3])))
 (.reg [] [.o 61 (.bin .add (.k 51) (.c (.i .i64 1))),
 .o 51 (.mv (.k 61))] false [2,3,49,50,51] [2,3])))))))
 (.seq (.reg [] [.o 62 (.ld true 5 .tk (.k 3)),
 .s (.st 5 (.t 2) (.k 62))] false [2] [2])
 .ret)))))⟩

def F_c_law17_Make : F := ⟨1,[.inr (2,true,5)],
 (.seq (.reg [.zz 0] [.o 1 (.bx (.k 0)),
 .o 2 (.al ([.i .i64 0,.i .i64 0,.i .u64 0,.l .x 1 [],.l .x 1 []]))] false [1,2] [1,2])
 (.seq (.reg [] [.o 13 (.fa 0 (.t 1)),
 .o 14 (.ld false 1 .cp (.k 13)),
 .o 15 (.fa 1 (.t 1)),
 .o 16 (.ld false 1 .cp (.k 15)),
 .o 17 (.call n_c_law12_Kind [.k 14,.k 16]),
 .o 12 (.mv (.k 17)),
 .o 18 (.ex false 0 12),
 .o 19 (.ex false 1 12),
 .o 3 (.mv (.k 18)),
 .o 4 (.mv (.k 19))] false [1,2,3,4] [1,2])
 (.seq (.reg [] [.o 20 (.mv (.t 3)),
 .o 21 (.mv (.t 4)),
 .o 22 (.fa 2 (.t 1)),
 .o 23 (.ld false 1 .cp (.k 22)),
 .o 24 (.bd ([.i .i64 0,.i .i64 0,.i .u64 0,.l .x 1 [],.l .x 1 []]) [(0,1,.k 20),(1,1,.k 21),(2,1,.k 23)]),
 .o 5 (.al ([.i .i64 0,.i .i64 0,.i .u64 0,.l .x 1 [],.l .x 1 []])),
 .s (.st 5 (.t 5) (.k 24))] false [1,2,3,4,5] [1,2,5])
 (.seq (.reg [] [.o 25 (.mv (.t 4)),
 .z 26 (.bs 1 5 (.i .i64 0) [(0,.c (.i .i64 0)),(1,.k 25),(2,.c (.i .i64 1)),(3,.c (.i .i64 0)),(4,.c (.i .i64 0))]) 1,
 .u 27 (.mv (.t 3)) [0,1] 0,
 .o 28 (.ia 1 none (.k 26) (.k 27)),
 .o 29 (.ld false 1 .cp (.k 28)),
 .u 30 (.mv (.t 4)) [0,1,2,3,4] 0,
 .u 31 (.bs 1 5 (.i .i64 0) [(0,.c (.i .i64 0)),(1,.c (.i .i64 0)),(2,.c (.i .i64 0)),(3,.k 30),(4,.c (.i .i64 1))]) [0,1,2,3,4] 1,
 .u 32 (.mv (.t 3)) [0,1,2,3,4,5,6] 0,
 .u 33 (.ia 1 none (.k 31) (.k 32)) [0,1,2,3,4] 0,
 .u 34 (.ld false 1 .cp (.k 33)) [0,1,2,3,4] 0,
 .u 6 (.mv (.k 29)) [5,6,7,8,9] 0,
 .o 7 (.mv (.k 34))] true [1,2,3,5,6,7] [1,2,5])
 (.seq (.seq (.reg [] [.o 35 (.mv (.t 6)),
 .o 36 (.mv (.c (.i .i64 0)))] false [1,2,3,5,6,7,35,36] [1,2,5])
 (.blk 0 (.loop (.seq (.reg [] [.o 37 (.bin .lss (.t 36) (.t 35))] false [1,2,3,5,6,7,35,36,37] [1,2,5])
 (.seq (.cond 37 .skip
 (.exit 0))
 (.seq (.blk 1 (.reg [] [.o 38 (.fa 3 (.t 5)),
 .o 39 (.ld false 1 .tk (.k 38)),
 .z 40 (.bs 2 0 (.a ([.f .f64 0,.i .i64 0])) []) 1,
 .o 41 (.bs 1 1 (.l .o 2 []) [(0,.k 40)]),
 .o 42 (.app 1 24 (.k 39) (.k 41)),
 .o 43 (.fa 3 (.t 5)),
 .s (.st 1 (.k 43) (.k 42))] false [1,2,3,5,6,7,35,36] [1,2,5]))
 (.reg [] [.o 44 (.bin .add (.k 36) (.c (.i .i64 1))),
 .o 36 (.mv (.k 44))] false [1,2,3,5,6,7,35,36] [1,2,5])))))))
 (.seq (.seq (.reg [] [.o 8 (.mv (.c (.i .i64 0)))] false [1,2,3,5,6,7,8] [1,2,5])
 (.blk 2 (.loop (.seq (.seq (.reg [] [.o 45 (.mv (.t 8)),
 .o 46 (.fa 3 (.t 1)),
 .o 47 (.ld false 1 .cp (.k 46)),
 .o 48 (.len false (.k 47)),
 .o 49 (.bin .lss (.k 45) (.k 48)),
 .o 50 (.mv (.k 49)),
 .c 50 true 51 (.mv (.t 8)),
 .c 50 true 52 (.bin .lss (.k 51) (.c (.i .i64 60))),
 .o 53 (.pick (.k 50) (.k 52) (.c (.b false))),
 .o 54 (.mv (.k 53)),
 .c 54 true 55 (.mv (.t 6)),
 .c 54 true 56 (.bin .gtr (.k 55) (.c (.i .i64 0))),
 .o 57 (.pick (.k 54) (.k 56) (.c (.b false)))] false [1,2,3,5,6,7,8,57] [1,2,5])
 (.cond 57 .skip
 (.exit 2)))
 (.seq (.blk 3 (.reg [] [.o 60 (.fa 3 (.t 5)),
 .o 61 (.lda 1 (.k 60)),
 .u 62 (.mv (.t 8)) [0,1] 0,
 .u 63 (.mv (.t 6)) [0,1,2] 0,
 .u 64 (.bin .rem (.k 62) (.k 63)) [0,1] 0,
 .u 65 (.fa 3 (.t 5)) [0,1,2,3,4] 0,
 .u 66 (.lda 1 (.k 65)) [0,1,2,3,4] 1,
 .u 67 (.mv (.t 8)) [0,1,2,3,4,5,6] 0,
 .u 68 (.mv (.t 6)) [0,1,2,3,4,5,6,7] 0,
 .u 69 (.bin .rem (.k 67) (.k 68)) [0,1,2,3,4,5,6] 0,
 .u 70 (.ia 1 none (.k 66) (.k 69)) [0,1,2,3,4] 0,
 .u 71 (.ld false 1 .tk (.k 70)) [0,1,2,3,4] 0,
 .u 72 (.fa 3 (.t 1)) [0,1,2,3,4,5,6,7,8,9,10,11] 0,
 .u 73 (.ld false 1 .cp (.k 72)) [0,1,2,3,4,5,6,7,8,9,10,11] 0,
 .u 74 (.mv (.t 8)) [0,1,2,3,4,5,6,7,8,9,10,11,12,13] 0,
 .u 75 (.ia 2 none (.k 73) (.k 74)) [0,1,2,3,4,5,6,7,8,9,10,11] 0,
 .u 76 (.ld true 2 .cp (.k 75)) [0,1,2,3,4,5,6,7,8,9,10,11] 0,
 .u 77 (.call n_c_law04_Own [.k 76]) [0,1,2,3,4,5,6,7,8,9,10,11] 0,
 .u 78 (.call n_pile_Item_Canon [.k 77]) [0,1,2,3,4,5,6,7,8,9,10,11] 0,
 .u 79 (.bs 2 1 (.a ([.f .f64 0,.i .i64 0])) [(0,.k 78)]) [0,1,2,3,4,5,6,7,8,9,10,11] 0,
 .u 80 (.app 2 16 (.k 71) (.k 79)) [0,1,2,3,4] 1,
 .o 81 (.ia 1 none (.k 61) (.k 64)),
 .s (.st 1 (.k 81) (.k 80))] true [1,2,3,5,6,7,8] [1,2,5]))
 (.reg [] [.o 58 (.mv (.k 8)),
 .o 59 (.bin .add (.k 58) (.c (.i .i64 1))),
 .o 8 (.mv (.k 59))] false [1,2,3,5,6,7,8] [1,2,5]))))))
 (.seq (.seq (.reg [] [.o 82 (.fa 3 (.t 5)),
 .z 83 (.lda 1 (.k 82)) 1,
 .o 84 (.len false (.k 83)),
 .o 85 (.mv (.c (.i .i64 0)))] false [1,2,3,5,7,84,85] [1,2,5])
 (.blk 4 (.loop (.seq (.reg [] [.o 86 (.bin .lss (.t 85) (.t 84))] false [1,2,3,5,7,84,85,86] [1,2,5])
 (.seq (.cond 86 .skip
 (.exit 4))
 (.seq (.blk 5 (.seq (.reg [] [.o 87 (.mv (.t 85)),
 .o 9 (.mv (.k 87))] false [1,2,3,5,7,9,84,85] [1,2,5])
 (.seq (.reg [] [.o 88 (.mv (.t 3)),
 .o 89 (.bin .eql (.k 88) (.c (.i .i64 1)))] false [1,2,3,5,7,9,84,85,89] [1,2,5])
 (.cond 89 (.reg [] [.o 90 (.fa 3 (.t 5)),
 .o 91 (.lda 1 (.k 90)),
 .u 92 (.mv (.t 9)) [0,1] 0,
 .u 93 (.fa 3 (.t 5)) [0,1,2] 0,
 .u 94 (.lda 1 (.k 93)) [0,1,2] 1,
 .u 95 (.mv (.t 9)) [0,1,2,3,4] 0,
 .u 96 (.ia 1 none (.k 94) (.k 95)) [0,1,2] 0,
 .u 97 (.ld false 1 .cp (.k 96)) [0,1,2] 2,
 .u 98 (.call n_c_law17_sorted [.k 97]) [0,1,2] 0,
 .o 99 (.ia 1 none (.k 91) (.k 92)),
 .s (.st 1 (.k 99) (.k 98))] true [1,2,3,5,7,84,85] [1,2,5])
 .skip))))
 (.reg [] [.o 100 (.bin .add (.k 85) (.c (.i .i64 1))),
 .o 85 (.mv (.k 100))] false [1,2,3,5,7,84,85] [1,2,5])))))))
 (.seq (.seq (.reg [] [.o 101 (.mv (.k 7)),
 .o 102 (.mv (.c (.i .i64 0)))] false [1,2,5,101,102] [1,2,5])
 (.blk 6 (.loop (.seq (.reg [] [.o 103 (.bin .lss (.t 102) (.t 101))] false [1,2,5,101,102,103] [1,2,5])
 (.seq (.cond 103 .skip
 (.exit 6))
 (.seq (.blk 7 (.seq (.reg [] [.o 104 (.mv (.t 102)),
 .o 10 (.mv (.k 104))] false [1,2,5,10,101,102] [1,2,5])
 (.seq (.reg [] [.o 11 (.mv (.c (.i .i64 0)))] false [1,2,5,10,11,101,102] [1,2,5])
 (.seq (.seq (.reg [] [.o 105 (.mv (.t 10)),
 .o 106 (.fa 4 (.t 1)),
 .o 107 (.ld false 1 .cp (.k 106)),
 .o 108 (.len false (.k 107)),
 .o 109 (.bin .lss (.k 105) (.k 108))] false [1,2,5,10,11,101,102,109] [1,2,5])
 (.cond 109 (.reg [] [.o 110 (.fa 4 (.t 1)),
 .o 111 (.ld false 1 .cp (.k 110)),
 .o 112 (.mv (.k 10)),
 .o 113 (.ia 1 none (.k 111) (.k 112)),
 .o 114 (.ld false 1 .cp (.k 113)),
 .o 115 (.bin .and (.k 114) (.c (.i .i64 1099511627775))),
 .o 11 (.mv (.k 115))] false [1,2,5,11,101,102] [1,2,5])
 .skip))
 (.reg [] [.o 116 (.fa 4 (.t 5)),
 .o 117 (.ld false 1 .tk (.k 116)),
 .o 118 (.mv (.k 11)),
 .o 119 (.bs 1 1 (.i .i64 0) [(0,.k 118)]),
 .o 120 (.app 1 8 (.k 117) (.k 119)),
 .o 121 (.fa 4 (.t 5)),
 .s (.st 1 (.k 121) (.k 120))] false [1,2,5,101,102] [1,2,5])))))
 (.reg [] [.o 122 (.bin .add (.k 102) (.c (.i .i64 1))),
 .o 102 (.mv (.k 122))] false [1,2,5,101,102] [1,2,5])))))))
 (.seq (.reg [] [.o 123 (.ld true 5 .tk (.k 5)),
 .s (.st 5 (.t 2) (.k 123))] false [2] [2])
 .ret)))))))))⟩

def F_c_ref02_Seal : F := ⟨1,[.inl 2],
 (.seq (.reg [] [.o 2 (.mv (.c (.s ⟨#[]⟩)))] false [0] [])
 (.seq (.reg [] [.o 3 (.mv (.t 0)),
 .o 4 (.mv (.k 0)),
 .o 5 (.call n_c_ref02_Sum [.k 4]),
 .o 6 (.call n_c_ref02_Word [.k 5]),
 .o 7 (.bin .add (.k 3) (.k 6)),
 .o 2 (.mv (.k 7))] false [2] [])
 .ret))⟩

def F_elder_Read : F := ⟨1,[.inr (2,true,5),.inl 3,.inl 4],
 (.seq (.reg [] [.o 2 (.al ([.i .i64 0,.i .i64 0,.i .u64 0,.l .o 1 [],.l .o 1 []])),
 .o 3 (.mv (.c (.i .i64 0))),
 .o 4 (.mv (.c (.i .i64 0)))] false [0,2] [2])
 (.seq (.reg [] [.o 9 (.mv (.t 0)),
 .o 10 (.call n_elder_Version [.k 9]),
 .o 8 (.mv (.k 10)),
 .o 11 (.ex false 0 8),
 .o 12 (.ex false 1 8),
 .o 5 (.mv (.k 11)),
 .o 6 (.mv (.k 12))] false [0,2,5,6] [2])
 (.seq (.seq (.reg [] [.o 13 (.mv (.t 6)),
 .o 14 (.bin .neq (.k 13) (.c (.i .i64 0)))] false [0,2,5,6,14] [2])
 (.cond 14 (.seq (.reg [] [.o 15 (.bd ([.i .i64 0,.i .i64 0,.i .u64 0,.l .o 1 [],.l .o 1 []]) []),
 .o 16 (.mv (.k 6)),
 .s (.st 5 (.t 2) (.k 15)),
 .o 3 (.mv (.c (.i .i64 0))),
 .o 4 (.mv (.k 16))] false [2,3,4] [2])
 .ret)
 .skip))
 (.seq (.reg [] [.o 18 (.mv (.t 5)),
 .o 19 (.mv (.k 0)),
 .o 20 (.call n_elder_read [.k 18,.k 19]),
 .o 17 (.mv (.k 20)),
 .o 21 (.ex false 0 17),
 .o 22 (.ex false 1 17),
 .o 7 (.al ([.i .i64 0,.i .i64 0,.i .u64 0,.l .o 1 [],.l .o 1 []])),
 .s (.st 5 (.t 7) (.k 21)),
 .o 6 (.mv (.k 22))] false [2,5,6,7] [2,7])
 (.seq (.seq (.reg [] [.o 23 (.mv (.t 6)),
 .o 24 (.bin .neq (.k 23) (.c (.i .i64 0)))] false [2,5,6,7,24] [2,7])
 (.cond 24 (.seq (.reg [] [.o 25 (.bd ([.i .i64 0,.i .i64 0,.i .u64 0,.l .o 1 [],.l .o 1 []]) []),
 .o 26 (.mv (.k 6)),
 .s (.st 5 (.t 2) (.k 25)),
 .o 3 (.mv (.c (.i .i64 0))),
 .o 4 (.mv (.k 26))] false [2,3,4] [2])
 .ret)
 .skip))
 (.seq (.reg [] [.o 27 (.ld true 5 .tk (.k 7)),
 .o 28 (.mv (.k 5)),
 .s (.st 5 (.t 2) (.k 27)),
 .o 3 (.mv (.k 28)),
 .o 4 (.mv (.c (.i .i64 0)))] false [2,3,4] [2])
 .ret))))))⟩

def F_elder_Write : F := ⟨2,[.inl 4,.inl 5],
 (.seq (.reg [.zz 0] [.o 2 (.bx (.k 0)),
 .o 4 (.mv (.c (.s ⟨#[]⟩))),
 .o 5 (.mv (.c (.i .i64 0)))] false [1,2] [2])
 (.seq (.seq (.reg [] [.z 8 (.ld true 5 .cp (.t 2)) 2,
 .o 9 (.call n_image_Image_Check [.k 8]),
 .o 6 (.mv (.k 9))] false [1,2,6] [2])
 (.seq (.reg [] [.o 10 (.mv (.t 6)),
 .o 11 (.bin .neq (.k 10) (.c (.i .i64 0)))] false [1,2,6,11] [2])
 (.cond 11 (.seq (.reg [] [.o 12 (.mv (.k 6)),
 .o 4 (.mv (.c (.s ⟨#[]⟩))),
 .o 5 (.mv (.k 12))] false [4,5] [])
 .ret)
 .skip)))
 (.seq (.reg [] [.o 13 (.mv (.t 1)),
 .o 14 (.cv (.int .u8) (.k 13)),
 .o 15 (.fa 0 (.t 2)),
 .o 16 (.ld false 1 .cp (.k 15)),
 .o 17 (.cv (.int .u8) (.k 16)),
 .z 18 (.bs 1 2 (.i .u8 0) [(0,.k 14),(1,.k 17)]) 1,
 .o 19 (.cv .str (.k 18)),
 .o 20 (.bin .add (.c (.s ⟨#[67,82,89,79]⟩)) (.k 19)),
 .o 7 (.mv (.k 20))] false [1,2,7] [2])
 (.seq (.seq (.reg [] [.o 21 (.mv (.k 1))] false [2,7,21] [2])
 (.blk 0 (.seq (.reg [] [.o 23 (.bin .eql (.t 21) (.c (.i .i64 1))),
 .o 22 (.mv (.k 23))] false [2,7,21,22] [2])
 (.cond 22 (.seq (.reg [] [.o 24 (.mv (.k 7)),
 .z 25 (.ld true 5 .tk (.k 2)) 2,
 .o 26 (.call n_elder_one [.k 25]),
 .o 27 (.cv .str (.k 26)),
 .o 28 (.bin .add (.k 24) (.k 27)),
 .o 4 (.mv (.k 28)),
 .o 5 (.mv (.c (.i .i64 0)))] false [4,5] [])
 .ret)
 (.seq (.reg [] [.o 30 (.bin .eql (.t 21) (.c (.i .i64 2))),
 .o 29 (.mv (.k 30))] false [2,7,21,29] [2])
 (.cond 29 (.seq (.reg [] [.o 31 (.call n_crc_Make []),
 .u 32 (.mv (.k 7)) [0] 0,
 .u 33 (.ld true 5 .cp (.k 2)) [0,1] 2,
 .u 34 (.call n_elder_two [.k 33]) [1] 0,
 .u 35 (.cv .str (.k 34)) [1] 0,
 .o 36 (.bin .add (.k 32) (.k 35)),
 .o 37 (.call n_crc_Table_Seal [.k 31,.k 36]),
 .o 4 (.mv (.k 37)),
 .o 5 (.mv (.c (.i .i64 0)))] true [4,5] [])
 .ret)
 (.seq (.reg [] [.o 39 (.bin .eql (.t 21) (.c (.i .i64 3))),
 .o 38 (.mv (.k 39))] false [2,7,21,38] [2])
 (.cond 38 (.seq (.reg [] [.o 40 (.call n_crc_Make []),
 .u 41 (.mv (.k 7)) [0] 0,
 .u 42 (.ld true 5 .cp (.k 2)) [0,1] 2,
 .u 43 (.call n_elder_three [.k 42]) [1] 0,
 .u 44 (.cv .str (.k 43)) [1] 0,
 .o 45 (.bin .add (.k 41) (.k 44)),
 .o 46 (.call n_crc_Table_Seal [.k 40,.k 45]),
 .o 4 (.mv (.k 46)),
 .o 5 (.mv (.c (.i .i64 0)))] true [4,5] [])
 .ret)
 (.seq (.reg [] [.o 48 (.bin .eql (.k 21) (.c (.i .i64 4))),
 .o 47 (.mv (.k 48))] false [2,47] [2])
 (.cond 47 (.seq (.reg [] [.z 49 (.ld true 5 .tk (.k 2)) 2,
 .o 50 (.call n_file_Encode [.k 49]),
 .o 51 (.ex false 0 50),
 .o 52 (.ex false 1 50),
 .o 4 (.mv (.k 51)),
 .o 5 (.mv (.k 52))] false [4,5] [])
 .ret)
 .skip))))))))))
 (.seq (.reg [] [.o 4 (.mv (.c (.s ⟨#[]⟩))),
 .o 5 (.mv (.c (.i .i64 8)))] false [4,5] [])
 .ret)))))⟩

def F_image_Image_Value : F := ⟨1,[.inr (2,true,3)],
 (.seq (.reg [.zz 0] [.o 1 (.bx (.k 0)),
 .o 2 (.al ([.i .i64 0,.l .o 2 [],.i .i64 0]))] false [1,2] [1,2])
 (.seq (.reg [] [.o 8 (.fa 0 (.t 1)),
 .o 9 (.ld false 1 .cp (.k 8)),
 .o 10 (.bd ([.i .i64 0,.l .o 2 [],.i .i64 0]) [(0,1,.k 9)]),
 .o 3 (.al ([.i .i64 0,.l .o 2 [],.i .i64 0])),
 .s (.st 3 (.t 3) (.k 10))] false [1,2,3] [1,2,3])
 (.seq (.seq (.reg [] [.o 11 (.fa 3 (.t 1)),
 .o 12 (.ld false 1 .cp (.k 11)),
 .o 13 (.len false (.t 12)),
 .o 14 (.mv (.c (.i .i64 0)))] false [1,2,3,12,13,14] [1,2,3])
 (.blk 0 (.loop (.seq (.reg [] [.o 15 (.bin .lss (.t 14) (.t 13))] false [1,2,3,12,13,14,15] [1,2,3])
 (.seq (.cond 15 .skip
 (.exit 0))
 (.seq (.blk 1 (.seq (.reg [] [.o 16 (.ia 1 none (.t 12) (.t 14)),
 .o 17 (.ld false 1 .cp (.k 16)),
 .o 5 (.mv (.k 17))] false [1,2,3,5,12,13,14] [1,2,3])
 (.reg [] [.o 18 (.fa 1 (.t 3)),
 .o 19 (.ld false 1 .tk (.k 18)),
 .o 20 (.mv (.k 5)),
 .z 21 (.app 2 16 (.k 19) (.k 20)) 1,
 .o 22 (.fa 1 (.t 3)),
 .s (.st 1 (.k 22) (.k 21))] false [1,2,3,12,13,14] [1,2,3])))
 (.reg [] [.o 23 (.bin .add (.k 14) (.c (.i .i64 1))),
 .o 14 (.mv (.k 23))] false [1,2,3,12,13,14] [1,2,3])))))))
 (.seq (.seq (.reg [] [.o 24 (.fa 0 (.t 1)),
 .o 25 (.ld false 1 .cp (.k 24)),
 .o 26 (.bin .eql (.k 25) (.c (.i .i64 1)))] false [1,2,3,26] [1,2,3])
 (.cond 26 (.reg [] [.o 27 (.fa 1 (.t 3)),
 .z 28 (.ld false 1 .cp (.k 27)) 2,
 .o 29 (.call n_pile_Sorted [.k 28]),
 .o 30 (.fa 1 (.t 3)),
 .s (.st 1 (.k 30) (.k 29))] false [1,2,3] [1,2,3])
 .skip))
 (.seq (.seq (.reg [] [.o 31 (.fa 4 (.k 1)),
 .o 32 (.ld false 1 .tk (.k 31)),
 .o 33 (.len false (.t 32)),
 .o 34 (.mv (.c (.i .i64 0)))] false [2,3,32,33,34] [2,3])
 (.blk 2 (.loop (.seq (.reg [] [.o 35 (.bin .lss (.t 34) (.t 33))] false [2,3,32,33,34,35] [2,3])
 (.seq (.cond 35 .skip
 (.exit 2))
 (.seq (.blk 3 (.seq (.reg [] [.o 36 (.ia 1 none (.t 32) (.t 34)),
 .o 37 (.ld false 1 .cp (.k 36)),
 .o 7 (.mv (.k 37))] false [2,3,7,32,33,34] [2,3])
 (.reg [] [.o 38 (.fa 2 (.t 3)),
 .o 39 (.ld false 1 .cp (.k 38)),
 .o 40 (.mv (.k 7)),
 .o 41 (.bin .add (.k 39) (.k 40)),
 .o 42 (.fa 2 (.t 3)),
 .s (.st 1 (.k 42) (.k 41))] false [2,3,32,33,34] [2,3])))
 (.reg [] [.o 43 (.bin .add (.k 34) (.c (.i .i64 1))),
 .o 34 (.mv (.k 43))] false [2,3,32,33,34] [2,3])))))))
 (.seq (.reg [] [.o 44 (.ld true 3 .tk (.k 3)),
 .s (.st 3 (.t 2) (.k 44))] false [2] [2])
 .ret))))))⟩

def F_c_law22_awake : F := ⟨0,[.inl 0],
 (.seq (.reg [] [.o 0 (.mv (.c (.b false)))] false [] [])
 (.seq (.reg [] [.z 8 (.bs 1 1 (.i .i64 0) [(0,.c (.i .i64 5))]) 1,
 .z 9 (.bd ([.i .i64 0,.i .i64 0,.i .u64 0,.l .o 1 [],.l .o 1 []]) [(0,1,.c (.i .i64 4)),(1,1,.c (.i .i64 4)),(4,1,.k 8)]) 2,
 .o 10 (.call n_file_Encode [.k 9]),
 .o 7 (.mv (.k 10)),
 .o 11 (.ex false 0 7),
 .o 12 (.ex false 1 7),
 .o 1 (.mv (.k 11)),
 .o 2 (.mv (.k 12))] false [1] [])
 (.seq (.reg [] [.o 14 (.mv (.t 1)),
 .o 15 (.call n_upgrade_Step [.k 14]),
 .o 13 (.mv (.k 15)),
 .o 16 (.ex false 0 13),
 .o 17 (.ex false 1 13),
 .o 3 (.mv (.k 16)),
 .o 4 (.mv (.k 17))] false [1,4] [])
 (.seq (.reg [] [.o 19 (.call n_upgrade_All [.c (.s ⟨#[67,82,89,79,1,4,4,5,0,0,0,0,0,0,0]⟩)]),
 .o 18 (.mv (.k 19)),
 .o 20 (.ex false 0 18),
 .o 21 (.ex false 1 18),
 .o 5 (.mv (.k 20)),
 .o 6 (.mv (.k 21))] false [1,4,5,6] [])
 (.seq (.reg [] [.o 22 (.mv (.k 4)),
 .o 23 (.bin .eql (.k 22) (.c (.i .i64 12))),
 .o 24 (.mv (.k 23)),
 .c 24 true 25 (.mv (.k 6)),
 .c 24 true 26 (.bin .eql (.k 25) (.c (.i .i64 0))),
 .o 27 (.pick (.k 24) (.k 26) (.c (.b false))),
 .o 28 (.mv (.k 27)),
 .c 28 true 29 (.mv (.k 5)),
 .c 28 true 30 (.mv (.t 1)),
 .c 28 true 31 (.bin .eql (.k 29) (.k 30)),
 .o 32 (.pick (.k 28) (.k 31) (.c (.b false))),
 .o 33 (.mv (.k 32)),
 .c 33 true 34 (.mv (.k 1)),
 .c 33 true 35 (.bin .neq (.k 34) (.c (.s ⟨#[]⟩))),
 .o 36 (.pick (.k 33) (.k 35) (.c (.b false))),
 .o 0 (.mv (.k 36))] false [0] [])
 .ret)))))⟩

def F_upgrade_All : F := ⟨1,[.inl 2,.inl 3],
 (.seq (.reg [] [.o 2 (.mv (.c (.s ⟨#[]⟩))),
 .o 3 (.mv (.c (.i .i64 0)))] false [0] [])
 (.seq (.reg [] [.o 8 (.mv (.t 0)),
 .o 9 (.call n_elder_Read [.k 8]),
 .o 7 (.mv (.k 9)),
 .o 10 (.ex false 0 7),
 .o 11 (.ex false 1 7),
 .o 12 (.ex false 2 7),
 .o 4 (.al ([.i .i64 0,.i .i64 0,.i .u64 0,.l .o 1 [],.l .o 1 []])),
 .s (.st 5 (.k 4) (.k 10)),
 .o 5 (.mv (.k 11)),
 .o 6 (.mv (.k 12))] false [0,5,6] [])
 (.seq (.seq (.reg [] [.o 13 (.mv (.t 6)),
 .o 14 (.bin .neq (.k 13) (.c (.i .i64 0)))] false [0,5,6,14] [])
 (.cond 14 (.seq (.reg [] [.o 15 (.mv (.k 6)),
 .o 2 (.mv (.c (.s ⟨#[]⟩))),
 .o 3 (.mv (.k 15))] false [2,3] [])
 .ret)
 .skip))
 (.seq (.blk 0 (.loop (.seq (.seq (.reg [] [.o 16 (.mv (.t 5)),
 .o 17 (.bin .lss (.k 16) (.c (.i .i64 4)))] false [0,5,17] [])
 (.cond 17 .skip
 (.exit 0)))
 (.seq (.blk 1 (.seq (.reg [] [.o 21 (.mv (.k 0)),
 .o 22 (.call n_upgrade_Step [.k 21]),
 .o 20 (.mv (.k 22)),
 .o 23 (.ex false 0 20),
 .o 24 (.ex false 1 20),
 .o 0 (.mv (.k 23)),
 .o 6 (.mv (.k 24))] false [0,5,6] [])
 (.seq (.reg [] [.o 25 (.mv (.t 6)),
 .o 26 (.bin .neq (.k 25) (.c (.i .i64 0)))] false [0,5,6,26] [])
 (.cond 26 (.seq (.reg [] [.o 27 (.mv (.k 6)),
 .o 2 (.mv (.c (.s ⟨#[]⟩))),
 .o 3 (.mv (.k 27))] false [2,3] [])
 .ret)
 .skip))))
 (.reg [] [.o 18 (.mv (.k 5)),
 .o 19 (.bin .add (.k 18) (.c (.i .i64 1))),
 .o 5 (.mv (.k 19))] false [0,5] [])))))
 (.seq (.reg [] [.o 28 (.mv (.k 0)),
 .o 2 (.mv (.k 28)),
 .o 3 (.mv (.c (.i .i64 0)))] false [2,3] [])
 .ret)))))⟩

def F_upgrade_Step : F := ⟨1,[.inl 2,.inl 3],
 (.seq (.reg [] [.o 2 (.mv (.c (.s ⟨#[]⟩))),
 .o 3 (.mv (.c (.i .i64 0)))] false [0] [])
 (.seq (.reg [] [.o 8 (.mv (.k 0)),
 .o 9 (.call n_elder_Read [.k 8]),
 .o 7 (.mv (.k 9)),
 .o 10 (.ex false 0 7),
 .o 11 (.ex false 1 7),
 .o 12 (.ex false 2 7),
 .o 4 (.al ([.i .i64 0,.i .i64 0,.i .u64 0,.l .o 1 [],.l .o 1 []])),
 .s (.st 5 (.t 4) (.k 10)),
 .o 5 (.mv (.k 11)),
 .o 6 (.mv (.k 12))] false [4,5,6] [4])
 (.seq (.blk 0 (.seq (.reg [] [.o 14 (.mv (.t 6)),
 .o 15 (.bin .neq (.k 14) (.c (.i .i64 0))),
 .o 13 (.mv (.k 15))] false [4,5,6,13] [4])
 (.cond 13 (.seq (.reg [] [.o 16 (.mv (.k 6)),
 .o 2 (.mv (.c (.s ⟨#[]⟩))),
 .o 3 (.mv (.k 16))] false [2,3] [])
 .ret)
 (.seq (.reg [] [.o 18 (.mv (.t 5)),
 .o 19 (.bin .eql (.k 18) (.c (.i .i64 4))),
 .o 17 (.mv (.k 19))] false [4,5,17] [4])
 (.cond 17 (.seq (.reg [] [.o 2 (.mv (.c (.s ⟨#[]⟩))),
 .o 3 (.mv (.c (.i .i64 12)))] false [2,3] [])
 .ret)
 .skip)))))
 (.seq (.reg [] [.z 20 (.ld true 5 .tk (.k 4)) 2,
 .o 21 (.mv (.k 5)),
 .o 22 (.bin .add (.k 21) (.c (.i .i64 1))),
 .o 23 (.call n_elder_Write [.k 20,.k 22]),
 .o 24 (.ex false 0 23),
 .o 25 (.ex false 1 23),
 .o 2 (.mv (.k 24)),
 .o 3 (.mv (.k 25))] false [2,3] [])
 .ret))))⟩

def F_upgrade_Many : F := ⟨1,[.inl 2,.inl 3,.inl 4],
 (.seq (.reg [.zz 0] [.o 2 (.mv (.c (.l .o 1 []))),
 .o 3 (.mv (.c (.i .i64 0))),
 .o 4 (.mv (.c (.i .i64 0)))] false [0] [])
 (.seq (.reg [] [.o 5 (.mv (.c (.l .o 1 [])))] false [0,5] [])
 (.seq (.seq (.reg [] [.o 10 (.mv (.k 0)),
 .o 11 (.len false (.t 10)),
 .o 12 (.mv (.c (.i .i64 0)))] false [5,10,11,12] [])
 (.blk 0 (.loop (.seq (.reg [] [.o 13 (.bin .lss (.t 12) (.t 11))] false [5,10,11,12,13] [])
 (.seq (.cond 13 .skip
 (.exit 0))
 (.seq (.blk 1 (.seq (.reg [] [.o 14 (.mv (.t 12)),
 .o 15 (.ia 1 none (.t 10) (.t 12)),
 .o 16 (.ld false 1 .cp (.k 15)),
 .o 6 (.mv (.k 14)),
 .o 7 (.mv (.k 16))] false [5,6,7,10,11,12] [])
 (.seq (.reg [] [.o 18 (.mv (.k 7)),
 .o 19 (.call n_upgrade_All [.k 18]),
 .o 17 (.mv (.k 19)),
 .o 20 (.ex false 0 17),
 .o 21 (.ex false 1 17),
 .o 8 (.mv (.k 20)),
 .o 9 (.mv (.k 21))] false [5,6,8,9,10,11,12] [])
 (.seq (.seq (.reg [] [.o 22 (.mv (.t 9)),
 .o 23 (.bin .neq (.k 22) (.c (.i .i64 0)))] false [5,6,8,9,10,11,12,23] [])
 (.cond 23 (.seq (.reg [] [.o 24 (.mv (.k 5)),
 .o 25 (.mv (.k 6)),
 .o 26 (.mv (.k 9)),
 .o 2 (.mv (.k 24)),
 .o 3 (.mv (.k 25)),
 .o 4 (.mv (.k 26))] false [2,3,4] [])
 .ret)
 .skip))
 (.reg [] [.o 27 (.mv (.k 5)),
 .o 28 (.mv (.k 8)),
 .o 29 (.bs 1 1 (.s ⟨#[]⟩) [(0,.k 28)]),
 .z 30 (.app 1 16 (.k 27) (.k 29)) 1,
 .o 5 (.mv (.k 30))] false [5,10,11,12] [])))))
 (.reg [] [.o 31 (.bin .add (.k 12) (.c (.i .i64 1))),
 .o 12 (.mv (.k 31))] false [5,10,11,12] [])))))))
 (.seq (.reg [] [.o 32 (.mv (.k 5)),
 .o 2 (.mv (.k 32)),
 .o 3 (.mv (.c (.i .i64 (-1)))),
 .o 4 (.mv (.c (.i .i64 0)))] false [2,3,4] [])
 .ret))))⟩

def F_c_ref22_All : F := ⟨1,[.inl 2,.inl 3],
 (.seq (.reg [] [.o 2 (.mv (.c (.s ⟨#[]⟩))),
 .o 3 (.mv (.c (.i .i64 0)))] false [0] [])
 (.seq (.reg [] [.o 8 (.mv (.t 0)),
 .o 9 (.call n_c_ref21_Read [.k 8]),
 .o 7 (.mv (.k 9)),
 .o 10 (.ex false 0 7),
 .o 11 (.ex false 1 7),
 .o 12 (.ex false 2 7),
 .o 4 (.al ([.i .i64 0,.i .i64 0,.i .u64 0,.l .o 1 [],.l .o 1 []])),
 .s (.st 5 (.t 4) (.k 10)),
 .o 5 (.mv (.k 11)),
 .o 6 (.mv (.k 12))] false [0,4,5,6] [4])
 (.seq (.seq (.reg [] [.o 13 (.mv (.t 6)),
 .o 14 (.bin .neq (.k 13) (.c (.i .i64 0)))] false [0,4,5,6,14] [4])
 (.cond 14 (.seq (.reg [] [.o 15 (.mv (.k 6)),
 .o 2 (.mv (.c (.s ⟨#[]⟩))),
 .o 3 (.mv (.k 15))] false [2,3] [])
 .ret)
 .skip))
 (.seq (.seq (.reg [] [.o 16 (.mv (.k 5)),
 .o 17 (.bin .eql (.k 16) (.c (.i .i64 4)))] false [0,4,17] [4])
 (.cond 17 (.seq (.reg [] [.o 18 (.mv (.k 0)),
 .o 2 (.mv (.k 18)),
 .o 3 (.mv (.c (.i .i64 0)))] false [2,3] [])
 .ret)
 .skip))
 (.seq (.reg [] [.z 19 (.ld true 5 .tk (.k 4)) 2,
 .o 20 (.call n_c_ref21_Write [.k 19,.c (.i .i64 4)]),
 .o 2 (.mv (.k 20)),
 .o 3 (.mv (.c (.i .i64 0)))] false [2,3] [])
 .ret)))))⟩

def F_file_Decode : F := ⟨1,[.inr (2,true,5),.inl 3],
 (.seq (.reg [] [.o 2 (.al ([.i .i64 0,.i .i64 0,.i .u64 0,.l .o 1 [],.l .o 1 []])),
 .o 3 (.mv (.c (.i .i64 0)))] false [0,2] [2])
 (.seq (.reg [] [.o 9 (.call n_crc_Make []),
 .o 10 (.bd ([.nilp,.s ⟨#[]⟩,.l .o 2 []]) [(0,1,.k 9)]),
 .o 11 (.bg (.k 10)),
 .o 4 (.mv (.k 11))] false [0,2,4] [2])
 (.seq (.reg [] [.o 13 (.mv (.t 4)),
 .o 14 (.mv (.k 0)),
 .o 15 (.call n_file_reader_begin [.k 13,.k 14]),
 .o 12 (.mv (.k 15)),
 .o 16 (.ex false 0 12),
 .o 17 (.ex false 1 12),
 .o 18 (.ex false 2 12),
 .o 5 (.mv (.k 16)),
 .o 6 (.mv (.k 17)),
 .o 7 (.mv (.k 18))] false [2,4,5,6,7] [2])
 (.seq (.seq (.reg [] [.o 19 (.mv (.t 7)),
 .o 20 (.bin .eql (.k 19) (.c (.i .i64 0)))] false [2,4,5,6,7,20] [2])
 (.cond 20 (.reg [] [.o 21 (.mv (.t 4)),
 .o 22 (.mv (.k 5)),
 .o 23 (.call n_file_reader_sections [.k 21,.k 22]),
 .o 7 (.mv (.k 23))] false [2,4,6,7] [2])
 .skip))
 (.seq (.reg [] [.o 8 (.al ([.i .i64 0,.i .i64 0,.i .u64 0,.l .o 1 [],.l .o 1 []]))] false [2,4,6,7,8] [2,8])
 (.seq (.seq (.reg [] [.o 24 (.mv (.t 7)),
 .o 25 (.bin .eql (.k 24) (.c (.i .i64 0)))] false [2,4,6,7,8,25] [2,8])
 (.cond 25 (.reg [] [.o 27 (.mv (.k 6)),
 .o 28 (.mv (.k 4)),
 .o 29 (.nc (.k 28)),
 .o 30 (.fa 2 (.k 29)),
 .z 31 (.ld false 1 .cp (.k 30)) 2,
 .o 32 (.call n_section_Read [.k 27,.k 31]),
 .o 26 (.mv (.k 32)),
 .o 33 (.ex false 0 26),
 .o 34 (.ex false 1 26),
 .s (.st 5 (.t 8) (.k 33)),
 .o 7 (.mv (.k 34))] false [2,7,8] [2,8])
 .skip))
 (.seq (.seq (.reg [] [.o 35 (.mv (.t 7)),
 .o 36 (.bin .eql (.k 35) (.c (.i .i64 0)))] false [2,7,8,36] [2,8])
 (.cond 36 (.reg [] [.z 37 (.ld true 5 .cp (.t 8)) 2,
 .o 38 (.call n_image_Image_Check [.k 37]),
 .o 7 (.mv (.k 38))] false [2,7,8] [2,8])
 .skip))
 (.seq (.seq (.reg [] [.o 39 (.mv (.t 7)),
 .o 40 (.bin .neq (.k 39) (.c (.i .i64 0)))] false [2,7,8,40] [2,8])
 (.cond 40 (.seq (.reg [] [.o 41 (.bd ([.i .i64 0,.i .i64 0,.i .u64 0,.l .o 1 [],.l .o 1 []]) []),
 .o 42 (.mv (.k 7)),
 .s (.st 5 (.t 2) (.k 41)),
 .o 3 (.mv (.k 42))] false [2,3] [2])
 .ret)
 .skip))
 (.seq (.reg [] [.o 43 (.ld true 5 .tk (.k 8)),
 .s (.st 5 (.t 2) (.k 43)),
 .o 3 (.mv (.c (.i .i64 0)))] false [2,3] [2])
 .ret)))))))))⟩

def F_elder_Version : F := ⟨1,[.inl 2,.inl 3],
 (.seq (.reg [] [.o 2 (.mv (.c (.i .i64 0))),
 .o 3 (.mv (.c (.i .i64 0)))] false [0] [])
 (.seq (.blk 0 (.seq (.reg [] [.o 6 (.mv (.t 0)),
 .o 7 (.call n_strings_HasPrefix [.k 6,.c (.s ⟨#[67,82,89,79]⟩)]),
 .o 8 (.un .not (.k 7)),
 .o 5 (.mv (.k 8))] false [0,5] [])
 (.cond 5 (.seq (.reg [] [.o 2 (.mv (.c (.i .i64 0))),
 .o 3 (.mv (.c (.i .i64 10)))] false [2,3] [])
 .ret)
 (.seq (.reg [] [.o 10 (.mv (.t 0)),
 .o 11 (.len true (.k 10)),
 .o 12 (.bin .gtr (.k 11) (.c (.i .i64 65536))),
 .o 9 (.mv (.k 12))] false [0,9] [])
 (.cond 9 (.seq (.reg [] [.o 2 (.mv (.c (.i .i64 0))),
 .o 3 (.mv (.c (.i .i64 3)))] false [2,3] [])
 .ret)
 (.seq (.reg [] [.o 14 (.mv (.t 0)),
 .o 15 (.len true (.k 14)),
 .o 16 (.bin .eql (.k 15) (.c (.i .i64 4))),
 .o 13 (.mv (.k 16))] false [0,13] [])
 (.cond 13 (.seq (.reg [] [.o 2 (.mv (.c (.i .i64 0))),
 .o 3 (.mv (.c (.i .i64 1)))] false [2,3] [])
 .ret)
 .skip)))))))
 (.seq (.reg [] [.o 17 (.mv (.k 0)),
 .o 18 (.ixs (.k 17) (.c (.i .i64 4))),
 .o 19 (.cv (.int .i64) (.k 18)),
 .o 4 (.mv (.k 19))] false [4] [])
 (.seq (.seq (.reg [] [.o 20 (.mv (.t 4)),
 .o 21 (.bin .lss (.k 20) (.c (.i .i64 1))),
 .o 22 (.mv (.k 21)),
 .c 22 false 23 (.mv (.t 4)),
 .c 22 false 24 (.bin .gtr (.k 23) (.c (.i .i64 4))),
 .o 25 (.pick (.k 22) (.c (.b true)) (.k 24))] false [4,25] [])
 (.cond 25 (.seq (.reg [] [.o 2 (.mv (.c (.i .i64 0))),
 .o 3 (.mv (.c (.i .i64 8)))] false [2,3] [])
 .ret)
 .skip))
 (.seq (.reg [] [.o 26 (.mv (.k 4)),
 .o 2 (.mv (.k 26)),
 .o 3 (.mv (.c (.i .i64 0)))] false [2,3] [])
 .ret)))))⟩

def F_c_ref01_Num2 : F := ⟨1,[.inl 2],
 (.seq (.reg [] [.o 2 (.mv (.c (.s ⟨#[]⟩)))] false [0] [])
 (.seq (.reg [] [.z 4 (.bs 1 0 (.i .u8 0) []) 1,
 .o 3 (.mv (.k 4))] false [0,3] [])
 (.seq (.blk 0 (.loop (.seq (.seq (.reg [] [.o 5 (.mv (.t 0)),
 .o 6 (.bin .geq (.k 5) (.c (.i .u64 128)))] false [0,3,6] [])
 (.cond 6 .skip
 (.exit 0)))
 (.blk 1 (.seq (.reg [] [.o 7 (.mv (.k 3)),
 .o 8 (.mv (.t 0)),
 .o 9 (.bin .rem (.k 8) (.c (.i .u64 128))),
 .o 10 (.bin .add (.k 9) (.c (.i .u64 128))),
 .o 11 (.cv (.int .u8) (.k 10)),
 .o 12 (.bs 1 1 (.i .u8 0) [(0,.k 11)]),
 .z 13 (.app 1 1 (.k 7) (.k 12)) 1,
 .o 3 (.mv (.k 13))] false [0,3] [])
 (.reg [] [.o 14 (.mv (.k 0)),
 .o 15 (.bin .quo (.k 14) (.c (.i .u64 128))),
 .o 0 (.mv (.k 15))] false [0,3] []))))))
 (.seq (.reg [] [.o 16 (.mv (.k 3)),
 .o 17 (.mv (.k 0)),
 .o 18 (.cv (.int .u8) (.k 17)),
 .o 19 (.bs 1 1 (.i .u8 0) [(0,.k 18)]),
 .z 20 (.app 1 1 (.k 16) (.k 19)) 1,
 .o 21 (.cv .str (.k 20)),
 .o 2 (.mv (.k 21))] false [2] [])
 .ret))))⟩

def F_c_ref17_Value : F := ⟨1,[.inr (2,true,3)],
 (.seq (.reg [.zz 0] [.o 1 (.bx (.k 0)),
 .o 2 (.al ([.i .i64 0,.l .o 2 [],.i .i64 0]))] false [1,2] [1,2])
 (.seq (.reg [] [.o 10 (.fa 0 (.t 1)),
 .o 11 (.ld false 1 .cp (.k 10)),
 .o 12 (.bd ([.i .i64 0,.l .o 2 [],.i .i64 0]) [(0,1,.k 11)]),
 .o 3 (.al ([.i .i64 0,.l .o 2 [],.i .i64 0])),
 .s (.st 3 (.t 3) (.k 12))] false [1,2,3] [1,2,3])
 (.seq (.seq (.reg [] [.o 13 (.fa 3 (.t 1)),
 .o 14 (.ld false 1 .cp (.k 13)),
 .o 15 (.len false (.t 14)),
 .o 16 (.mv (.c (.i .i64 0)))] false [1,2,3,14,15,16] [1,2,3])
 (.blk 0 (.loop (.seq (.reg [] [.o 17 (.bin .lss (.t 16) (.t 15))] false [1,2,3,14,15,16,17] [1,2,3])
 (.seq (.cond 17 .skip
 (.exit 0))
 (.seq (.blk 1 (.seq (.reg [] [.o 18 (.ia 1 none (.t 14) (.t 16)),
 .o 19 (.ld false 1 .cp (.k 18)),
 .o 5 (.mv (.k 19))] false [1,2,3,5,14,15,16] [1,2,3])
 (.seq (.reg [] [.o 20 (.mv (.k 5)),
 .o 21 (.len false (.t 20)),
 .o 22 (.mv (.c (.i .i64 0)))] false [1,2,3,14,15,16,20,21,22] [1,2,3])
 (.blk 2 (.loop (.seq (.reg [] [.o 23 (.bin .lss (.t 22) (.t 21))] false [1,2,3,14,15,16,20,21,22,23] [1,2,3])
 (.seq (.cond 23 .skip
 (.exit 2))
 (.seq (.blk 3 (.seq (.reg [] [.o 24 (.ia 2 none (.t 20) (.t 22)),
 .o 25 (.ld true 2 .cp (.k 24)),
 .o 7 (.al ([.i .u64 0,.i .i64 0])),
 .s (.st 2 (.t 7) (.k 25))] false [1,2,3,7,14,15,16,20,21,22] [1,2,3,7])
 (.seq (.reg [] [.o 26 (.fa 0 (.t 1)),
 .o 27 (.ld false 1 .cp (.k 26)),
 .o 28 (.bin .eql (.k 27) (.c (.i .i64 1)))] false [1,2,3,7,14,15,16,20,21,22,28] [1,2,3,7])
 (.cond 28 (.reg [] [.o 29 (.fa 1 (.t 3)),
 .z 30 (.ld false 1 .cp (.k 29)) 2,
 .o 31 (.ld true 2 .cp (.k 7)),
 .o 32 (.call n_c_ref04_With [.k 30,.k 31]),
 .o 33 (.fa 1 (.t 3)),
 .s (.st 1 (.k 33) (.k 32))] false [1,2,3,14,15,16,20,21,22] [1,2,3])
 (.reg [] [.o 34 (.fa 1 (.t 3)),
 .o 35 (.ld false 1 .tk (.k 34)),
 .o 36 (.ld true 2 .cp (.k 7)),
 .o 37 (.bs 2 1 (.a ([.i .u64 0,.i .i64 0])) [(0,.k 36)]),
 .z 38 (.app 2 16 (.k 35) (.k 37)) 1,
 .o 39 (.fa 1 (.t 3)),
 .s (.st 1 (.k 39) (.k 38))] false [1,2,3,14,15,16,20,21,22] [1,2,3])))))
 (.reg [] [.o 40 (.bin .add (.k 22) (.c (.i .i64 1))),
 .o 22 (.mv (.k 40))] false [1,2,3,14,15,16,20,21,22] [1,2,3])))))))))
 (.reg [] [.o 41 (.bin .add (.k 16) (.c (.i .i64 1))),
 .o 16 (.mv (.k 41))] false [1,2,3,14,15,16] [1,2,3])))))))
 (.seq (.seq (.reg [] [.o 42 (.fa 4 (.k 1)),
 .o 43 (.ld false 1 .tk (.k 42)),
 .o 44 (.len false (.t 43)),
 .o 45 (.mv (.c (.i .i64 0)))] false [2,3,43,44,45] [2,3])
 (.blk 4 (.loop (.seq (.reg [] [.o 46 (.bin .lss (.t 45) (.t 44))] false [2,3,43,44,45,46] [2,3])
 (.seq (.cond 46 .skip
 (.exit 4))
 (.seq (.blk 5 (.seq (.reg [] [.o 47 (.ia 1 none (.t 43) (.t 45)),
 .o 48 (.ld false 1 .cp (.k 47)),
 .o 9 (.mv (.k 48))] false [2,3,9,43,44,45] [2,3])
 (.reg [] [.o 49 (.fa 2 (.t 3)),
 .o 50 (.ld false 1 .cp (.k 49)),
 .o 51 (.mv (.k 9)),
 .o 52 (.bin .add (.k 50) (.k 51)),
 .o 53 (.fa 2 (.t 3)),
 .s (.st 1 (.k 53) (.k 52))] false [2,3,43,44,45] [2,3])))
 (.reg [] [.o 54 (.bin .add (.k 45) (.c (.i .i64 1))),
 .o 45 (.mv (.k 54))] false [2,3,43,44,45] [2,3])))))))
 (.seq (.reg [] [.o 55 (.ld true 3 .tk (.k 3)),
 .s (.st 3 (.t 2) (.k 55))] false [2] [2])
 .ret)))))⟩

def F_c_ref01_Fixed : F := ⟨2,[.inl 4],
 (.seq (.reg [] [.o 4 (.mv (.c (.s ⟨#[]⟩)))] false [0,1] [])
 (.seq (.reg [] [.z 7 (.bs 1 0 (.i .u8 0) []) 1,
 .o 5 (.mv (.k 7))] false [0,1,5] [])
 (.seq (.seq (.reg [] [.o 6 (.mv (.c (.i .i64 0)))] false [0,1,5,6] [])
 (.blk 0 (.loop (.seq (.seq (.reg [] [.o 8 (.mv (.t 6)),
 .o 9 (.mv (.t 1)),
 .o 10 (.bin .lss (.k 8) (.k 9))] false [0,1,5,6,10] [])
 (.cond 10 .skip
 (.exit 0)))
 (.seq (.blk 1 (.seq (.reg [] [.o 13 (.mv (.k 5)),
 .o 14 (.mv (.t 0)),
 .o 15 (.bin .rem (.k 14) (.c (.i .u64 256))),
 .o 16 (.cv (.int .u8) (.k 15)),
 .o 17 (.bs 1 1 (.i .u8 0) [(0,.k 16)]),
 .z 18 (.app 1 1 (.k 13) (.k 17)) 1,
 .o 5 (.mv (.k 18))] false [0,1,5,6] [])
 (.reg [] [.o 19 (.mv (.k 0)),
 .o 20 (.bin .quo (.k 19) (.c (.i .u64 256))),
 .o 0 (.mv (.k 20))] false [0,1,5,6] [])))
 (.reg [] [.o 11 (.mv (.k 6)),
 .o 12 (.bin .add (.k 11) (.c (.i .i64 1))),
 .o 6 (.mv (.k 12))] false [0,1,5,6] []))))))
 (.seq (.reg [] [.o 21 (.mv (.k 5)),
 .o 22 (.cv .str (.k 21)),
 .o 4 (.mv (.k 22))] false [4] [])
 .ret))))⟩

def F_c_ref01_Int : F := ⟨1,[.inl 2],
 (.seq (.reg [] [.o 2 (.mv (.c (.s ⟨#[]⟩)))] false [0] [])
 (.seq (.seq (.reg [] [.o 3 (.mv (.t 0)),
 .o 4 (.bin .geq (.k 3) (.c (.i .i64 0)))] false [0,4] [])
 (.cond 4 (.seq (.reg [] [.o 5 (.mv (.k 0)),
 .o 6 (.cv (.int .u64) (.k 5)),
 .o 7 (.bin .mul (.k 6) (.c (.i .u64 2))),
 .o 8 (.call n_c_ref01_Num2 [.k 7]),
 .o 2 (.mv (.k 8))] false [2] [])
 .ret)
 .skip))
 (.seq (.reg [] [.o 9 (.mv (.k 0)),
 .o 10 (.bin .add (.k 9) (.c (.i .i64 1))),
 .o 11 (.un .neg (.k 10)),
 .o 12 (.cv (.int .u64) (.k 11)),
 .o 13 (.bin .mul (.k 12) (.c (.i .u64 2))),
 .o 14 (.bin .add (.k 13) (.c (.i .u64 1))),
 .o 15 (.call n_c_ref01_Num2 [.k 14]),
 .o 2 (.mv (.k 15))] false [2] [])
 .ret)))⟩

def F_c_ref19_Meta : F := ⟨1,[.inl 2],
 (.seq (.reg [.zz 0] [.o 1 (.bx (.k 0)),
 .o 2 (.mv (.c (.s ⟨#[]⟩)))] false [1] [1])
 (.seq (.reg [] [.o 3 (.fa 1 (.t 1)),
 .o 4 (.ld false 1 .cp (.k 3)),
 .o 5 (.cv (.int .u64) (.k 4)),
 .o 6 (.call n_c_ref01_Num2 [.k 5]),
 .u 7 (.fa 2 (.t 1)) [0,1,2,3] 0,
 .u 8 (.ld false 1 .cp (.k 7)) [0,1,2,3] 0,
 .o 9 (.call n_c_ref01_Num2 [.k 8]),
 .o 10 (.bin .add (.k 6) (.k 9)),
 .o 2 (.mv (.k 10))] true [2] [])
 .ret))⟩

def F_c_ref19_Data : F := ⟨1,[.inl 2],
 (.seq (.reg [.zz 0] [.o 1 (.bx (.k 0)),
 .o 2 (.mv (.c (.s ⟨#[]⟩)))] false [1] [1])
 (.seq (.reg [] [.o 3 (.mv (.c (.s ⟨#[]⟩)))] false [1,3] [1])
 (.seq (.seq (.reg [] [.o 8 (.fa 3 (.t 1)),
 .o 9 (.ld false 1 .cp (.k 8)),
 .o 10 (.len false (.t 9)),
 .o 11 (.mv (.c (.i .i64 0)))] false [1,3,9,10,11] [1])
 (.blk 0 (.loop (.seq (.reg [] [.o 12 (.bin .lss (.t 11) (.t 10))] false [1,3,9,10,11,12] [1])
 (.seq (.cond 12 .skip
 (.exit 0))
 (.seq (.blk 1 (.seq (.reg [] [.o 13 (.ia 1 none (.t 9) (.t 11)),
 .o 14 (.ld false 1 .cp (.k 13)),
 .o 5 (.mv (.k 14))] false [1,3,5,9,10,11] [1])
 (.reg [] [.o 15 (.mv (.k 3)),
 .z 16 (.mv (.k 5)) 2,
 .o 17 (.call n_c_ref19_Items [.k 16]),
 .o 18 (.bin .add (.k 15) (.k 17)),
 .o 3 (.mv (.k 18))] false [1,3,9,10,11] [1])))
 (.reg [] [.o 19 (.bin .add (.k 11) (.c (.i .i64 1))),
 .o 11 (.mv (.k 19))] false [1,3,9,10,11] [1])))))))
 (.seq (.seq (.reg [] [.o 20 (.fa 4 (.k 1)),
 .o 21 (.ld false 1 .tk (.k 20)),
 .o 22 (.len false (.t 21)),
 .o 23 (.mv (.c (.i .i64 0)))] false [3,21,22,23] [])
 (.blk 2 (.loop (.seq (.reg [] [.o 24 (.bin .lss (.t 23) (.t 22))] false [3,21,22,23,24] [])
 (.seq (.cond 24 .skip
 (.exit 2))
 (.seq (.blk 3 (.seq (.reg [] [.o 25 (.ia 1 none (.t 21) (.t 23)),
 .o 26 (.ld false 1 .cp (.k 25)),
 .o 7 (.mv (.k 26))] false [3,7,21,22,23] [])
 (.reg [] [.o 27 (.mv (.k 3)),
 .o 28 (.mv (.k 7)),
 .o 29 (.cv (.int .u64) (.k 28)),
 .o 30 (.call n_c_ref01_Num2 [.k 29]),
 .o 31 (.bin .add (.k 27) (.k 30)),
 .o 3 (.mv (.k 31))] false [3,21,22,23] [])))
 (.reg [] [.o 32 (.bin .add (.k 23) (.c (.i .i64 1))),
 .o 23 (.mv (.k 32))] false [3,21,22,23] [])))))))
 (.seq (.reg [] [.o 33 (.mv (.k 3)),
 .o 2 (.mv (.k 33))] false [2] [])
 .ret)))))⟩

def F_c_ref20_Encode : F := ⟨1,[.inl 2],
 (.seq (.reg [.zz 0] [.o 1 (.bx (.k 0)),
 .o 2 (.mv (.c (.s ⟨#[]⟩)))] false [1] [1])
 (.seq (.reg [] [.z 6 (.ld true 5 .cp (.t 1)) 2,
 .o 7 (.call n_c_ref19_Meta [.k 6]),
 .u 8 (.ld true 5 .cp (.t 1)) [0,1] 2,
 .o 9 (.call n_c_ref19_Data [.k 8]),
 .o 3 (.mv (.k 7)),
 .o 4 (.mv (.k 9))] true [1,3,4] [1])
 (.seq (.reg [] [.o 10 (.fa 0 (.k 1)),
 .o 11 (.ld false 1 .cp (.k 10)),
 .o 12 (.cv (.int .u8) (.k 11)),
 .z 13 (.bs 1 2 (.i .u8 0) [(0,.c (.i .u8 4)),(1,.k 12)]) 1,
 .o 14 (.cv .str (.k 13)),
 .o 15 (.bin .add (.c (.s ⟨#[67,82,89,79]⟩)) (.k 14)),
 .u 16 (.mv (.t 3)) [0,1,2,3,4,5] 0,
 .u 17 (.len true (.k 16)) [0,1,2,3,4,5] 0,
 .u 18 (.bin .add (.c (.i .i64 41)) (.k 17)) [0,1,2,3,4,5] 0,
 .u 19 (.mv (.t 4)) [0,1,2,3,4,5,6,7,8] 0,
 .u 20 (.len true (.k 19)) [0,1,2,3,4,5,6,7,8] 0,
 .u 21 (.bin .add (.k 18) (.k 20)) [0,1,2,3,4,5] 0,
 .u 22 (.call n_c_ref20_word [.k 21]) [0,1,2,3,4,5] 0,
 .o 23 (.bin .add (.k 15) (.k 22)),
 .o 24 (.bin .add (.k 23) (.c (.s ⟨#[2]⟩))),
 .o 5 (.mv (.k 24))] true [3,4,5] [])
 (.seq (.reg [] [.o 25 (.mv (.k 5)),
 .o 26 (.mv (.t 3)),
 .o 27 (.call n_c_ref20_entry [.c (.i .i64 1),.c (.i .i64 37),.k 26]),
 .o 28 (.mv (.t 3)),
 .o 29 (.len true (.k 28)),
 .o 30 (.bin .add (.c (.i .i64 37)) (.k 29)),
 .o 31 (.mv (.t 4)),
 .o 32 (.call n_c_ref20_entry [.c (.i .i64 2),.k 30,.k 31]),
 .o 33 (.bin .add (.k 27) (.k 32)),
 .o 34 (.mv (.k 3)),
 .o 35 (.bin .add (.k 33) (.k 34)),
 .o 36 (.mv (.k 4)),
 .o 37 (.bin .add (.k 35) (.k 36)),
 .o 38 (.bin .add (.k 25) (.k 37)),
 .o 5 (.mv (.k 38))] false [5] [])
 (.seq (.reg [] [.o 39 (.mv (.t 5)),
 .o 40 (.mv (.k 5)),
 .o 41 (.call n_c_ref02_Sum [.k 40]),
 .o 42 (.cv (.int .i64) (.k 41)),
 .o 43 (.call n_c_ref20_word [.k 42]),
 .o 44 (.bin .add (.k 39) (.k 43)),
 .o 2 (.mv (.k 44))] false [2] [])
 .ret)))))⟩

def F_c_law04_Bits : F := ⟨1,[.inl 2],
 (.seq (.reg [] [.o 1 (.bx (.k 0)),
 .o 2 (.mv (.c (.i .u64 0)))] false [1] [1])
 (.seq (.reg [] [.o 3 (.fa 0 (.k 1)),
 .o 4 (.ld false 1 .cp (.k 3)),
 .o 5 (.bits (.k 4)),
 .o 6 (.call n_c_ref03_Bits [.k 5]),
 .o 2 (.mv (.k 6))] false [2] [])
 .ret))⟩

def F_c_law12_Kind : F := ⟨2,[.inl 4,.inl 5],
 (.seq (.reg [] [.o 4 (.mv (.c (.i .i64 0))),
 .o 5 (.mv (.c (.i .i64 0)))] false [0,1] [])
 (.seq (.reg [] [.o 6 (.mv (.k 0)),
 .o 7 (.bin .and (.k 6) (.c (.i .i64 255))),
 .o 8 (.bin .rem (.k 7) (.c (.i .i64 4))),
 .o 9 (.bin .add (.c (.i .i64 1)) (.k 8)),
 .o 0 (.mv (.k 9))] false [0,1] [])
 (.seq (.seq (.reg [] [.o 10 (.mv (.t 0)),
 .o 11 (.bin .eql (.k 10) (.c (.i .i64 4)))] false [0,1,11] [])
 (.cond 11 (.seq (.reg [] [.o 12 (.mv (.k 0)),
 .u 13 (.mv (.k 1)) [0] 0,
 .u 14 (.bin .and (.k 13) (.c (.i .i64 255))) [0] 0,
 .u 15 (.bin .rem (.k 14) (.c (.i .i64 5))) [0] 0,
 .u 16 (.bin .shl (.c (.i .i64 1)) (.k 15)) [0] 0,
 .u 4 (.mv (.k 12)) [1,2,3,4] 0,
 .o 5 (.mv (.k 16))] true [4,5] [])
 .ret)
 .skip))
 (.seq (.reg [] [.o 17 (.mv (.k 0)),
 .o 18 (.mv (.k 1)),
 .o 19 (.bin .and (.k 18) (.c (.i .i64 255))),
 .o 20 (.bin .rem (.k 19) (.c (.i .i64 16))),
 .o 21 (.bin .add (.c (.i .i64 1)) (.k 20)),
 .o 4 (.mv (.k 17)),
 .o 5 (.mv (.k 21))] false [4,5] [])
 .ret))))⟩

def F_c_law04_Own : F := ⟨1,[.inr (2,true,2)],
 (.seq (.reg [] [.o 1 (.bx (.k 0)),
 .o 2 (.al ([.f .f64 0,.i .i64 0]))] false [1,2] [1,2])
 (.seq (.reg [] [.o 3 (.fa 0 (.t 1)),
 .o 4 (.ld false 1 .cp (.k 3)),
 .o 5 (.call n_c_law03_F [.k 4]),
 .u 6 (.fa 1 (.t 1)) [0,1,2] 0,
 .u 7 (.ld false 1 .cp (.k 6)) [0,1,2] 0,
 .o 8 (.bd ([.f .f64 0,.i .i64 0]) [(0,1,.k 5),(1,1,.k 7)]),
 .s (.st 2 (.t 2) (.k 8))] true [2] [2])
 .ret))⟩

def F_pile_Item_Canon : F := ⟨1,[.inr (2,true,2)],
 (.seq (.reg [] [.o 1 (.bx (.k 0)),
 .o 2 (.al ([.f .f64 0,.i .i64 0]))] false [1,2] [1,2])
 (.seq (.reg [] [.o 3 (.fa 0 (.t 1)),
 .o 4 (.ld false 1 .cp (.k 3)),
 .o 5 (.call n_real_Canon [.k 4]),
 .u 6 (.fa 1 (.t 1)) [0,1,2] 0,
 .u 7 (.ld false 1 .cp (.k 6)) [0,1,2] 0,
 .o 8 (.bd ([.f .f64 0,.i .i64 0]) [(0,1,.k 5),(1,1,.k 7)]),
 .s (.st 2 (.t 2) (.k 8))] true [2] [2])
 .ret))⟩

def F_c_law17_sorted : F := ⟨1,[.inl 2],
 (.seq (.reg [.zz 0] [.o 2 (.mv (.c (.l .o 2 [])))] false [0] [])
 (.seq (.reg [] [.z 7 (.bs 2 0 (.a ([.f .f64 0,.i .i64 0])) []) 1,
 .o 3 (.mv (.k 7))] false [0,3] [])
 (.seq (.seq (.reg [] [.o 8 (.mv (.k 0)),
 .o 9 (.len false (.t 8)),
 .o 10 (.mv (.c (.i .i64 0)))] false [3,8,9,10] [])
 (.blk 0 (.loop (.seq (.reg [] [.o 11 (.bin .lss (.t 10) (.t 9))] false [3,8,9,10,11] [])
 (.seq (.cond 11 .skip
 (.exit 0))
 (.seq (.blk 1 (.seq (.reg [] [.o 12 (.ia 2 none (.t 8) (.t 10)),
 .o 13 (.ld true 2 .cp (.k 12)),
 .o 5 (.al ([.f .f64 0,.i .i64 0])),
 .s (.st 2 (.t 5) (.k 13))] false [3,5,8,9,10] [5])
 (.seq (.reg [] [.o 14 (.mv (.t 3)),
 .o 15 (.len false (.k 14)),
 .o 6 (.mv (.k 15))] false [3,5,6,8,9,10] [5])
 (.seq (.blk 2 (.loop (.seq (.seq (.reg [] [.o 16 (.mv (.t 6)),
 .o 17 (.bin .gtr (.k 16) (.c (.i .i64 0))),
 .o 18 (.mv (.k 17)),
 .c 18 true 19 (.ld true 2 .cp (.t 5)),
 ⟨some 20,some (18,true),.mv (.t 3),[3],0⟩,
 ⟨some 21,some (18,true),.mv (.t 6),[3,4],0⟩,
 ⟨some 22,some (18,true),.bin .sub (.k 21) (.c (.i .i64 1)),[3,4],0⟩,
 ⟨some 23,some (18,true),.ia 2 none (.k 20) (.k 22),[3],0⟩,
 ⟨some 24,some (18,true),.ld true 2 .cp (.k 23),[3],0⟩,
 .c 18 true 25 (.call n_pile_Item_Cmp [.k 19,.k 24]),
 .c 18 true 26 (.bin .lss (.k 25) (.c (.i .i64 0))),
 .o 27 (.pick (.t 18) (.k 26) (.c (.b false)))] true [3,5,6,8,9,10,27] [5])
 (.cond 27 .skip
 (.exit 2)))
 (.blk 3 (.reg [] [.o 28 (.mv (.k 6)),
 .o 29 (.bin .sub (.k 28) (.c (.i .i64 1))),
 .o 6 (.mv (.k 29))] false [3,5,6,8,9,10] [5])))))
 (.reg [] [.o 30 (.mv (.t 3)),
 .u 31 (.mv (.t 6)) [0] 0,
 .u 32 (.mv (.t 6)) [0,1] 0,
 .o 33 (.sl 2 (.k 30) none (some (.k 31)) (some (.k 32))),
 .u 34 (.ld true 2 .cp (.k 5)) [0,1,2,3] 0,
 .u 35 (.bs 2 1 (.a ([.f .f64 0,.i .i64 0])) [(0,.k 34)]) [0,1,2,3] 1,
 .u 36 (.mv (.t 3)) [0,1,2,3,4,5] 0,
 .u 37 (.mv (.t 6)) [0,1,2,3,4,5,6] 0,
 .u 38 (.sl 2 (.k 36) (some (.k 37)) none none) [0,1,2,3,4,5] 0,
 .u 39 (.app 2 16 (.k 35) (.k 38)) [0,1,2,3] 1,
 .z 40 (.app 2 16 (.k 33) (.k 39)) 1,
 .o 3 (.mv (.k 40))] true [3,8,9,10] [])))))
 (.reg [] [.o 41 (.bin .add (.k 10) (.c (.i .i64 1))),
 .o 10 (.mv (.k 41))] false [3,8,9,10] [])))))))
 (.seq (.reg [] [.o 42 (.mv (.k 3)),
 .o 2 (.mv (.k 42))] false [2] [])
 .ret))))⟩

def F_c_ref02_Word : F := ⟨1,[.inl 2],
 (.seq (.reg [] [.o 2 (.mv (.c (.s ⟨#[]⟩)))] false [0] [])
 (.seq (.reg [] [.o 3 (.mv (.t 0)),
 .o 4 (.bin .rem (.k 3) (.c (.i .u32 256))),
 .o 5 (.cv (.int .u8) (.k 4)),
 .o 6 (.mv (.t 0)),
 .o 7 (.bin .quo (.k 6) (.c (.i .u32 256))),
 .o 8 (.bin .rem (.k 7) (.c (.i .u32 256))),
 .o 9 (.cv (.int .u8) (.k 8)),
 .o 10 (.mv (.t 0)),
 .o 11 (.bin .quo (.k 10) (.c (.i .u32 65536))),
 .o 12 (.bin .rem (.k 11) (.c (.i .u32 256))),
 .o 13 (.cv (.int .u8) (.k 12)),
 .o 14 (.mv (.k 0)),
 .o 15 (.bin .quo (.k 14) (.c (.i .u32 16777216))),
 .o 16 (.cv (.int .u8) (.k 15)),
 .z 17 (.bs 1 4 (.i .u8 0) [(0,.k 5),(1,.k 9),(2,.k 13),(3,.k 16)]) 1,
 .o 18 (.cv .str (.k 17)),
 .o 2 (.mv (.k 18))] false [2] [])
 .ret))⟩

def F_c_ref02_Sum : F := ⟨1,[.inl 2],
 (.seq (.reg [] [.o 2 (.mv (.c (.i .u32 0)))] false [0] [])
 (.seq (.reg [] [.o 13 (.mv (.k 0)),
 .o 14 (.call n_c_ref02_Bits [.k 13]),
 .o 3 (.mv (.k 14))] false [3] [3])
 (.seq (.reg [.thaw 3] [.o 15 (.mv (.t 3)),
 .o 16 (.len false (.k 15)),
 .o 4 (.mv (.k 16))] false [3,4] [3])
 (.seq (.seq (.reg [] [.o 5 (.mv (.c (.i .i64 0)))] false [3,4,5] [3])
 (.blk 0 (.loop (.seq (.seq (.reg [] [.o 17 (.mv (.t 5)),
 .o 18 (.bin .lss (.k 17) (.c (.i .i64 32)))] false [3,4,5,18] [3])
 (.cond 18 .skip
 (.exit 0)))
 (.seq (.blk 1 (.reg [.unth 3] [.o 21 (.mv (.k 3)),
 .o 22 (.bs 1 1 (.i .i64 0) [(0,.c (.i .i64 0))]),
 .o 23 (.app 1 8 (.k 21) (.k 22)),
 .o 3 (.mv (.k 23))] false [3,4,5] [3]))
 (.reg [] [.o 19 (.mv (.k 5)),
 .o 20 (.bin .add (.k 19) (.c (.i .i64 1))),
 .o 5 (.mv (.k 20))] false [3,4,5] [3]))))))
 (.seq (.seq (.reg [] [.o 6 (.mv (.c (.i .i64 0)))] false [3,4,6] [3])
 (.blk 2 (.loop (.seq (.seq (.reg [] [.o 24 (.mv (.t 6)),
 .o 25 (.bin .lss (.k 24) (.c (.i .i64 32)))] false [3,4,6,25] [3])
 (.cond 25 .skip
 (.exit 2)))
 (.seq (.blk 3 (.reg [.thaw 3] [.o 28 (.mv (.t 3)),
 .o 29 (.mv (.t 6)),
 .o 30 (.mv (.t 3)),
 .o 31 (.mv (.t 6)),
 .o 32 (.ia 1 none (.k 30) (.k 31)),
 .o 33 (.ld false 1 .cp (.k 32)),
 .o 34 (.bin .sub (.c (.i .i64 1)) (.k 33)),
 .o 35 (.ia 1 none (.k 28) (.k 29)),
 .s (.st 1 (.k 35) (.k 34))] false [3,4,6] [3]))
 (.reg [] [.o 26 (.mv (.k 6)),
 .o 27 (.bin .add (.k 26) (.c (.i .i64 1))),
 .o 6 (.mv (.k 27))] false [3,4,6] [3]))))))
 (.seq (.reg [] [.z 36 (.bs 1 15 (.i .i64 0) [(0,.c (.i .i64 32)),(1,.c (.i .i64 26)),(2,.c (.i .i64 23)),(3,.c (.i .i64 22)),(4,.c (.i .i64 16)),(5,.c (.i .i64 12)),(6,.c (.i .i64 11)),(7,.c (.i .i64 10)),(8,.c (.i .i64 8)),(9,.c (.i .i64 7)),(10,.c (.i .i64 5)),(11,.c (.i .i64 4)),(12,.c (.i .i64 2)),(13,.c (.i .i64 1)),(14,.c (.i .i64 0))]) 1,
 .o 7 (.mv (.k 36))] false [3,4,7] [3])
 (.seq (.seq (.reg [] [.o 8 (.mv (.c (.i .i64 0)))] false [3,4,7,8] [3])
 (.blk 4 (.loop (.seq (.seq (.reg [] [.o 37 (.mv (.t 8)),
 .o 38 (.mv (.t 4)),
 .o 39 (.bin .lss (.k 37) (.k 38))] false [3,4,7,8,39] [3])
 (.cond 39 .skip
 (.exit 4)))
 (.seq (.blk 5 (.seq (.seq (.reg [.thaw 3] [.o 42 (.mv (.t 3)),
 .o 43 (.mv (.t 8)),
 .o 44 (.ia 1 none (.k 42) (.k 43)),
 .o 45 (.ld false 1 .cp (.k 44)),
 .o 46 (.bin .eql (.k 45) (.c (.i .i64 0)))] false [3,4,7,8,46] [3])
 (.cond 46 (.exit 5)
 .skip))
 (.seq (.reg [] [.o 47 (.mv (.t 7)),
 .o 48 (.len false (.t 47)),
 .o 49 (.mv (.c (.i .i64 0)))] false [3,4,7,8,47,48,49] [3])
 (.blk 6 (.loop (.seq (.reg [] [.o 50 (.bin .lss (.t 49) (.t 48))] false [3,4,7,8,47,48,49,50] [3])
 (.seq (.cond 50 .skip
 (.exit 6))
 (.seq (.blk 7 (.seq (.reg [] [.o 51 (.ia 1 none (.t 47) (.t 49)),
 .o 52 (.ld false 1 .cp (.k 51)),
 .o 10 (.mv (.k 52))] false [3,4,7,8,10,47,48,49] [3])
 (.reg [.thaw 3] [.o 53 (.mv (.t 3)),
 .o 54 (.mv (.t 8)),
 .o 55 (.bin .add (.k 54) (.c (.i .i64 32))),
 .o 56 (.mv (.t 10)),
 .o 57 (.bin .sub (.k 55) (.k 56)),
 .o 58 (.mv (.t 3)),
 .o 59 (.mv (.t 8)),
 .o 60 (.bin .add (.k 59) (.c (.i .i64 32))),
 .o 61 (.mv (.k 10)),
 .o 62 (.bin .sub (.k 60) (.k 61)),
 .o 63 (.ia 1 none (.k 58) (.k 62)),
 .o 64 (.ld false 1 .cp (.k 63)),
 .o 65 (.bin .sub (.c (.i .i64 1)) (.k 64)),
 .o 66 (.ia 1 none (.k 53) (.k 57)),
 .s (.st 1 (.k 66) (.k 65))] false [3,4,7,8,47,48,49] [3])))
 (.reg [] [.o 67 (.bin .add (.k 49) (.c (.i .i64 1))),
 .o 49 (.mv (.k 67))] false [3,4,7,8,47,48,49] [3])))))))))
 (.reg [] [.o 40 (.mv (.k 8)),
 .o 41 (.bin .add (.k 40) (.c (.i .i64 1))),
 .o 8 (.mv (.k 41))] false [3,4,7,8] [3]))))))
 (.seq (.reg [] [.o 11 (.mv (.c (.i .u32 0)))] false [3,4,11] [3])
 (.seq (.seq (.reg [] [.o 12 (.mv (.c (.i .i64 31)))] false [3,4,11,12] [3])
 (.blk 8 (.loop (.seq (.seq (.reg [] [.o 68 (.mv (.t 12)),
 .o 69 (.bin .geq (.k 68) (.c (.i .i64 0)))] false [3,4,11,12,69] [3])
 (.cond 69 .skip
 (.exit 8)))
 (.seq (.blk 9 (.reg [.thaw 3] [.o 72 (.mv (.k 11)),
 .o 73 (.bin .mul (.k 72) (.c (.i .u32 2))),
 .o 74 (.mv (.t 3)),
 .o 75 (.mv (.t 4)),
 .o 76 (.mv (.t 12)),
 .o 77 (.bin .add (.k 75) (.k 76)),
 .o 78 (.ia 1 none (.k 74) (.k 77)),
 .o 79 (.ld false 1 .cp (.k 78)),
 .o 80 (.bin .sub (.c (.i .i64 1)) (.k 79)),
 .o 81 (.cv (.int .u32) (.k 80)),
 .o 82 (.bin .add (.k 73) (.k 81)),
 .o 11 (.mv (.k 82))] false [3,4,11,12] [3]))
 (.reg [] [.o 70 (.mv (.k 12)),
 .o 71 (.bin .sub (.k 70) (.c (.i .i64 1))),
 .o 12 (.mv (.k 71))] false [3,4,11,12] [3]))))))
 (.seq (.reg [] [.o 83 (.mv (.k 11)),
 .o 2 (.mv (.k 83))] false [2] [])
 .ret))))))))))⟩

def F_c_ref21_Read : F := ⟨1,[.inr (2,true,5),.inl 3,.inl 4],
 (.seq (.reg [] [.o 2 (.al ([.i .i64 0,.i .i64 0,.i .u64 0,.l .o 1 [],.l .o 1 []])),
 .o 3 (.mv (.c (.i .i64 0))),
 .o 4 (.mv (.c (.i .i64 0)))] false [0,2] [2])
 (.seq (.reg [] [.o 10 (.mv (.t 0)),
 .o 11 (.call n_c_ref21_Version [.k 10]),
 .o 9 (.mv (.k 11)),
 .o 12 (.ex false 0 9),
 .o 13 (.ex false 1 9),
 .o 5 (.mv (.k 12)),
 .o 6 (.mv (.k 13))] false [0,2,5,6] [2])
 (.seq (.seq (.reg [] [.o 14 (.mv (.t 6)),
 .o 15 (.bin .neq (.k 14) (.c (.i .i64 0)))] false [0,2,5,6,15] [2])
 (.cond 15 (.seq (.reg [] [.o 16 (.bd ([.i .i64 0,.i .i64 0,.i .u64 0,.l .o 1 [],.l .o 1 []]) []),
 .o 17 (.mv (.k 6)),
 .s (.st 5 (.t 2) (.k 16)),
 .o 3 (.mv (.c (.i .i64 0))),
 .o 4 (.mv (.k 17))] false [2,3,4] [2])
 .ret)
 .skip))
 (.seq (.reg [] [.o 18 (.bd ([.i .i64 0,.i .i64 0,.i .u64 0,.l .o 1 [],.l .o 1 []]) []),
 .o 7 (.al ([.i .i64 0,.i .i64 0,.i .u64 0,.l .o 1 [],.l .o 1 []])),
 .s (.st 5 (.t 7) (.k 18))] false [0,2,5,7] [2,7])
 (.seq (.seq (.reg [] [.o 19 (.mv (.t 5)),
 .o 20 (.bin .eql (.k 19) (.c (.i .i64 4)))] false [0,2,5,7,20] [2,7])
 (.cond 20 (.reg [] [.o 22 (.mv (.k 0)),
 .o 23 (.call n_c_ref20_Decode [.k 22]),
 .o 21 (.mv (.k 23)),
 .o 24 (.ex false 0 21),
 .o 25 (.ex false 1 21),
 .s (.st 5 (.t 7) (.k 24)),
 .o 6 (.mv (.k 25))] false [2,5,6,7] [2,7])
 (.seq (.reg [] [.o 26 (.mv (.t 0)),
 .o 8 (.mv (.k 26))] false [0,2,5,7,8] [2,7])
 (.seq (.seq (.reg [] [.o 27 (.mv (.t 5)),
 .o 28 (.bin .gtr (.k 27) (.c (.i .i64 1)))] false [0,2,5,7,8,28] [2,7])
 (.cond 28 (.seq (.reg [] [.o 29 (.mv (.t 0)),
 .o 30 (.mv (.t 0)),
 .o 31 (.len true (.k 30)),
 .o 32 (.bin .sub (.k 31) (.c (.i .i64 4))),
 .o 33 (.ss (.k 29) none (some (.k 32))),
 .o 8 (.mv (.k 33))] false [0,2,5,7,8] [2,7])
 (.seq (.reg [] [.o 34 (.mv (.t 8)),
 .o 35 (.call n_c_ref02_Seal [.k 34]),
 .o 36 (.mv (.k 0)),
 .o 37 (.bin .neq (.k 35) (.k 36))] false [2,5,7,8,37] [2,7])
 (.cond 37 (.seq (.reg [] [.o 38 (.bd ([.i .i64 0,.i .i64 0,.i .u64 0,.l .o 1 [],.l .o 1 []]) []),
 .s (.st 5 (.t 2) (.k 38)),
 .o 3 (.mv (.c (.i .i64 0))),
 .o 4 (.mv (.c (.i .i64 7)))] false [2,3,4] [2])
 .ret)
 .skip)))
 .skip))
 (.seq (.reg [] [.o 40 (.mv (.t 5)),
 .o 41 (.mv (.t 8)),
 .o 42 (.mv (.k 8)),
 .o 43 (.len true (.k 42)),
 .o 44 (.mx false [.c (.i .i64 5),.k 43]),
 .o 45 (.ss (.k 41) (some (.k 44)) none),
 .o 46 (.call n_c_ref21_parse [.k 40,.k 45]),
 .o 39 (.mv (.k 46)),
 .o 47 (.ex false 0 39),
 .o 48 (.ex false 1 39),
 .s (.st 5 (.t 7) (.k 47)),
 .o 6 (.mv (.k 48))] false [2,5,6,7] [2,7])
 (.seq (.reg [] [.o 49 (.mv (.t 6)),
 .o 50 (.bin .eql (.k 49) (.c (.i .i64 0)))] false [2,5,6,7,50] [2,7])
 (.cond 50 (.reg [] [.z 51 (.ld true 5 .cp (.t 7)) 2,
 .o 52 (.call n_c_ref17_Check [.k 51]),
 .o 6 (.mv (.k 52))] false [2,5,6,7] [2,7])
 .skip)))))))
 (.seq (.seq (.reg [] [.o 53 (.mv (.t 6)),
 .o 54 (.bin .neq (.k 53) (.c (.i .i64 0)))] false [2,5,6,7,54] [2,7])
 (.cond 54 (.seq (.reg [] [.o 55 (.bd ([.i .i64 0,.i .i64 0,.i .u64 0,.l .o 1 [],.l .o 1 []]) []),
 .o 56 (.mv (.k 6)),
 .s (.st 5 (.t 2) (.k 55)),
 .o 3 (.mv (.c (.i .i64 0))),
 .o 4 (.mv (.k 56))] false [2,3,4] [2])
 .ret)
 .skip))
 (.seq (.reg [] [.o 57 (.ld true 5 .tk (.k 7)),
 .o 58 (.mv (.k 5)),
 .s (.st 5 (.t 2) (.k 57)),
 .o 3 (.mv (.k 58)),
 .o 4 (.mv (.c (.i .i64 0)))] false [2,3,4] [2])
 .ret)))))))⟩

def F_elder_read : F := ⟨2,[.inr (4,true,5),.inl 5],
 (.seq (.reg [] [.o 4 (.al ([.i .i64 0,.i .i64 0,.i .u64 0,.l .o 1 [],.l .o 1 []])),
 .o 5 (.mv (.c (.i .i64 0)))] false [0,1,4] [4])
 (.seq (.seq (.reg [] [.o 10 (.mv (.t 0)),
 .o 11 (.bin .eql (.k 10) (.c (.i .i64 4)))] false [0,1,4,11] [4])
 (.cond 11 (.seq (.reg [] [.o 12 (.mv (.k 1)),
 .o 13 (.call n_file_Decode [.k 12]),
 .o 14 (.ex false 0 13),
 .o 15 (.ex false 1 13),
 .s (.st 5 (.t 4) (.k 14)),
 .o 5 (.mv (.k 15))] false [4,5] [4])
 .ret)
 .skip))
 (.seq (.seq (.reg [] [.o 16 (.mv (.t 0)),
 .o 17 (.bin .gtr (.k 16) (.c (.i .i64 1)))] false [0,1,4,17] [4])
 (.cond 17 (.seq (.reg [] [.o 19 (.call n_crc_Make []),
 .o 20 (.mv (.k 1)),
 .o 21 (.call n_crc_Table_Open [.k 19,.k 20]),
 .o 18 (.mv (.k 21)),
 .o 22 (.ex false 0 18),
 .o 23 (.ex false 1 18),
 .o 6 (.mv (.k 22)),
 .o 7 (.mv (.k 23))] false [0,4,6,7] [4])
 (.seq (.seq (.reg [] [.o 24 (.mv (.t 7)),
 .o 25 (.bin .neq (.k 24) (.c (.i .i64 0)))] false [0,4,6,7,25] [4])
 (.cond 25 (.seq (.reg [] [.o 26 (.bd ([.i .i64 0,.i .i64 0,.i .u64 0,.l .o 1 [],.l .o 1 []]) []),
 .o 27 (.mv (.k 7)),
 .s (.st 5 (.t 4) (.k 26)),
 .o 5 (.mv (.k 27))] false [4,5] [4])
 .ret)
 .skip))
 (.reg [] [.o 28 (.mv (.k 6)),
 .o 1 (.mv (.k 28))] false [0,1,4] [4])))
 .skip))
 (.seq (.reg [] [.o 30 (.mv (.k 0)),
 .o 31 (.mv (.t 1)),
 .o 32 (.mv (.k 1)),
 .o 33 (.len true (.k 32)),
 .o 34 (.mx false [.k 33,.c (.i .i64 5)]),
 .o 35 (.ss (.k 31) (some (.k 34)) none),
 .o 36 (.call n_elder_parse [.k 30,.k 35]),
 .o 29 (.mv (.k 36)),
 .o 37 (.ex false 0 29),
 .o 38 (.ex false 1 29),
 .o 8 (.al ([.i .i64 0,.i .i64 0,.i .u64 0,.l .o 1 [],.l .o 1 []])),
 .s (.st 5 (.t 8) (.k 37)),
 .o 9 (.mv (.k 38))] false [4,8,9] [4,8])
 (.seq (.seq (.reg [] [.o 39 (.mv (.t 9)),
 .o 40 (.bin .eql (.k 39) (.c (.i .i64 0)))] false [4,8,9,40] [4,8])
 (.cond 40 (.reg [] [.z 41 (.ld true 5 .cp (.t 8)) 2,
 .o 42 (.call n_image_Image_Check [.k 41]),
 .o 9 (.mv (.k 42))] false [4,8,9] [4,8])
 .skip))
 (.seq (.reg [] [.o 43 (.ld true 5 .tk (.k 8)),
 .o 44 (.mv (.k 9)),
 .s (.st 5 (.t 4) (.k 43)),
 .o 5 (.mv (.k 44))] false [4,5] [4])
 .ret))))))⟩

def F_image_Image_Check : F := ⟨1,[.inl 2],
 (.seq (.reg [.zz 0] [.o 1 (.bx (.k 0)),
 .o 2 (.mv (.c (.i .i64 0)))] false [1] [1])
 (.seq (.seq (.reg [] [.o 13 (.fa 0 (.t 1)),
 .o 14 (.ld false 1 .cp (.k 13)),
 .o 15 (.fa 1 (.t 1)),
 .o 16 (.ld false 1 .cp (.k 15)),
 .o 17 (.call n_op_Legal [.k 14,.k 16]),
 .o 3 (.mv (.k 17))] false [1,3] [1])
 (.seq (.reg [] [.o 18 (.mv (.t 3)),
 .o 19 (.bin .neq (.k 18) (.c (.i .i64 0)))] false [1,3,19] [1])
 (.cond 19 (.seq (.reg [] [.o 20 (.mv (.k 3)),
 .o 2 (.mv (.k 20))] false [2] [])
 .ret)
 .skip)))
 (.seq (.reg [] [.o 22 (.fa 0 (.t 1)),
 .o 23 (.ld false 1 .cp (.k 22)),
 .o 24 (.fa 1 (.t 1)),
 .o 25 (.ld false 1 .cp (.k 24)),
 .o 26 (.call n_image_Shape [.k 23,.k 25]),
 .o 21 (.mv (.k 26)),
 .o 27 (.ex false 0 21),
 .o 28 (.ex false 1 21),
 .o 4 (.mv (.k 27)),
 .o 5 (.mv (.k 28))] false [1,4,5] [1])
 (.seq (.seq (.reg [] [.o 29 (.fa 3 (.t 1)),
 .o 30 (.ld false 1 .cp (.k 29)),
 .o 31 (.len false (.k 30)),
 .o 32 (.mv (.k 4)),
 .o 33 (.bin .neq (.k 31) (.k 32)),
 .o 34 (.mv (.k 33)),
 .c 34 false 35 (.fa 4 (.t 1)),
 .c 34 false 36 (.ld false 1 .cp (.k 35)),
 .c 34 false 37 (.len false (.k 36)),
 .c 34 false 38 (.mv (.k 5)),
 .c 34 false 39 (.bin .neq (.k 37) (.k 38)),
 .o 40 (.pick (.k 34) (.c (.b true)) (.k 39))] false [1,40] [1])
 (.cond 40 (.seq (.reg [] [.o 2 (.mv (.c (.i .i64 2)))] false [2] [])
 .ret)
 .skip))
 (.seq (.reg [] [.o 6 (.mv (.c (.i .i64 0)))] false [1,6] [1])
 (.seq (.seq (.reg [] [.o 41 (.fa 3 (.t 1)),
 .o 42 (.ld false 1 .cp (.k 41)),
 .o 43 (.len false (.t 42)),
 .o 44 (.mv (.c (.i .i64 0)))] false [1,6,42,43,44] [1])
 (.blk 0 (.loop (.seq (.reg [] [.o 45 (.bin .lss (.t 44) (.t 43))] false [1,6,42,43,44,45] [1])
 (.seq (.cond 45 .skip
 (.exit 0))
 (.seq (.blk 1 (.seq (.reg [] [.o 46 (.ia 1 none (.t 42) (.t 44)),
 .o 47 (.ld false 1 .cp (.k 46)),
 .o 8 (.mv (.k 47))] false [1,6,8,42,43,44] [1])
 (.seq (.seq (.reg [] [.o 48 (.fa 0 (.t 1)),
 .o 49 (.ld false 1 .cp (.k 48)),
 .z 50 (.mv (.t 8)) 2,
 .o 51 (.call n_image_order [.k 49,.k 50]),
 .o 9 (.mv (.k 51))] false [1,6,8,9,42,43,44] [1])
 (.seq (.reg [] [.o 52 (.mv (.t 9)),
 .o 53 (.bin .neq (.k 52) (.c (.i .i64 0)))] false [1,6,8,9,42,43,44,53] [1])
 (.cond 53 (.seq (.reg [] [.o 54 (.mv (.k 9)),
 .o 2 (.mv (.k 54))] false [2] [])
 .ret)
 .skip)))
 (.reg [] [.o 55 (.mv (.k 6)),
 .o 56 (.mv (.k 8)),
 .o 57 (.len false (.k 56)),
 .o 58 (.bin .add (.k 55) (.k 57)),
 .o 6 (.mv (.k 58))] false [1,6,42,43,44] [1]))))
 (.reg [] [.o 59 (.bin .add (.k 44) (.c (.i .i64 1))),
 .o 44 (.mv (.k 59))] false [1,6,42,43,44] [1])))))))
 (.seq (.seq (.reg [] [.o 60 (.mv (.k 6)),
 .o 61 (.bin .gtr (.k 60) (.c (.i .i64 1000)))] false [1,61] [1])
 (.cond 61 (.seq (.reg [] [.o 2 (.mv (.c (.i .i64 3)))] false [2] [])
 .ret)
 .skip))
 (.seq (.reg [] [.o 10 (.mv (.c (.i .i64 0)))] false [1,10] [1])
 (.seq (.seq (.reg [] [.o 62 (.fa 4 (.k 1)),
 .o 63 (.ld false 1 .tk (.k 62)),
 .o 64 (.len false (.t 63)),
 .o 65 (.mv (.c (.i .i64 0)))] false [10,63,64,65] [])
 (.blk 2 (.loop (.seq (.reg [] [.o 66 (.bin .lss (.t 65) (.t 64))] false [10,63,64,65,66] [])
 (.seq (.cond 66 .skip
 (.exit 2))
 (.seq (.blk 3 (.seq (.reg [] [.o 67 (.ia 1 none (.t 63) (.t 65)),
 .o 68 (.ld false 1 .cp (.k 67)),
 .o 12 (.mv (.k 68))] false [10,12,63,64,65] [])
 (.seq (.seq (.reg [] [.o 69 (.mv (.t 12)),
 .o 70 (.bin .lss (.k 69) (.c (.i .i64 0))),
 .o 71 (.mv (.k 70)),
 .c 71 false 72 (.mv (.t 12)),
 .c 71 false 73 (.bin .gtr (.k 72) (.c (.i .i64 1125899906842624))),
 .o 74 (.pick (.k 71) (.c (.b true)) (.k 73))] false [10,12,63,64,65,74] [])
 (.cond 74 (.seq (.reg [] [.o 2 (.mv (.c (.i .i64 4)))] false [2] [])
 .ret)
 .skip))
 (.reg [] [.o 75 (.mv (.k 10)),
 .o 76 (.mv (.k 12)),
 .o 77 (.bin .add (.k 75) (.k 76)),
 .o 10 (.mv (.k 77))] false [10,63,64,65] []))))
 (.reg [] [.o 78 (.bin .add (.k 65) (.c (.i .i64 1))),
 .o 65 (.mv (.k 78))] false [10,63,64,65] [])))))))
 (.seq (.seq (.reg [] [.o 79 (.mv (.k 10)),
 .o 80 (.bin .gtr (.k 79) (.c (.i .i64 1125899906842624)))] false [80] [])
 (.cond 80 (.seq (.reg [] [.o 2 (.mv (.c (.i .i64 4)))] false [2] [])
 .ret)
 .skip))
 (.seq (.reg [] [.o 2 (.mv (.c (.i .i64 0)))] false [2] [])
 .ret)))))))))))⟩

def F_elder_one : F := ⟨1,[.inl 2],
 (.seq (.reg [.zz 0] [.o 1 (.bx (.k 0)),
 .o 2 (.mv (.c (.l .o 1 [])))] false [1] [1])
 (.seq (.reg [] [.o 7 (.fa 1 (.t 1)),
 .o 8 (.ld false 1 .cp (.k 7)),
 .o 9 (.cv (.int .u64) (.k 8)),
 .o 10 (.call n_octet_Num [.c (.l .o 1 []),.k 9]),
 .o 3 (.mv (.k 10))] false [1,3] [1])
 (.seq (.reg [] [.z 11 (.ld true 5 .cp (.t 1)) 2,
 .o 12 (.call n_image_Image_Value [.k 11]),
 .o 4 (.al ([.i .i64 0,.l .o 2 [],.i .i64 0])),
 .s (.st 3 (.t 4) (.k 12))] false [1,3,4] [1,4])
 (.seq (.seq (.reg [] [.o 13 (.fa 0 (.t 1)),
 .o 14 (.ld false 1 .cp (.k 13)),
 .o 15 (.bin .eql (.k 14) (.c (.i .i64 3))),
 .o 16 (.mv (.k 15)),
 .c 16 false 17 (.fa 0 (.k 1)),
 .c 16 false 18 (.ld false 1 .cp (.k 17)),
 .c 16 false 19 (.bin .eql (.k 18) (.c (.i .i64 4))),
 .o 20 (.pick (.k 16) (.c (.b true)) (.k 19))] false [3,4,20] [4])
 (.cond 20 (.seq (.reg [] [.o 21 (.mv (.k 3)),
 .o 22 (.fa 2 (.k 4)),
 .o 23 (.ld false 1 .cp (.k 22)),
 .o 24 (.cv (.int .u64) (.k 23)),
 .o 25 (.call n_octet_Long [.k 21,.k 24]),
 .o 2 (.mv (.k 25))] false [2] [])
 .ret)
 .skip))
 (.seq (.reg [] [.o 26 (.mv (.k 3)),
 .o 27 (.fa 1 (.t 4)),
 .o 28 (.ld false 1 .cp (.k 27)),
 .o 29 (.len false (.k 28)),
 .o 30 (.cv (.int .u32) (.k 29)),
 .o 31 (.call n_octet_Word [.k 26,.k 30]),
 .o 3 (.mv (.k 31))] false [3,4] [4])
 (.seq (.seq (.reg [] [.o 32 (.fa 1 (.k 4)),
 .o 33 (.ld false 1 .tk (.k 32)),
 .o 34 (.len false (.t 33)),
 .o 35 (.mv (.c (.i .i64 0)))] false [3,33,34,35] [])
 (.blk 0 (.loop (.seq (.reg [] [.o 36 (.bin .lss (.t 35) (.t 34))] false [3,33,34,35,36] [])
 (.seq (.cond 36 .skip
 (.exit 0))
 (.seq (.blk 1 (.seq (.reg [] [.o 37 (.ia 2 none (.t 33) (.t 35)),
 .o 38 (.ld true 2 .cp (.k 37)),
 .o 6 (.al ([.f .f64 0,.i .i64 0])),
 .s (.st 2 (.t 6) (.k 38))] false [3,6,33,34,35] [6])
 (.reg [] [.o 39 (.mv (.k 3)),
 .u 40 (.ld true 2 .cp (.t 6)) [0] 0,
 .u 41 (.call n_pile_Item_Canon [.k 40]) [0] 0,
 .u 42 (.fd false 0 1 (.k 41)) [0] 0,
 .u 43 (.bits (.k 42)) [0] 0,
 .o 44 (.call n_octet_Long [.k 39,.k 43]),
 .u 45 (.fa 1 (.t 6)) [0,1,2,3,4,5] 0,
 .u 46 (.ld false 1 .cp (.k 45)) [0,1,2,3,4,5] 0,
 .u 47 (.cv (.int .u64) (.k 46)) [0,1,2,3,4,5] 0,
 .o 48 (.call n_octet_Long [.k 44,.k 47]),
 .o 3 (.mv (.k 48))] true [3,33,34,35] [])))
 (.reg [] [.o 49 (.bin .add (.k 35) (.c (.i .i64 1))),
 .o 35 (.mv (.k 49))] false [3,33,34,35] [])))))))
 (.seq (.reg [] [.o 50 (.mv (.k 3)),
 .o 2 (.mv (.k 50))] false [2] [])
 .ret)))))))⟩

def F_crc_Make : F := ⟨0,[.inl 0],
 (.seq (.reg [] [.o 0 (.mv (.c (.nilp)))] false [] [])
 (.seq (.reg [] [.o 4 (.bd (List.replicate 256 (.i .u32 0 : D)) []),
 .o 5 (.bg (.k 4)),
 .o 1 (.mv (.k 5))] false [1] [])
 (.seq (.seq (.reg [] [.o 6 (.mv (.c (.i .i64 0)))] false [1,6] [])
 (.blk 0 (.loop (.seq (.reg [] [.o 7 (.bin .lss (.t 6) (.c (.i .i64 256)))] false [1,6,7] [])
 (.seq (.cond 7 .skip
 (.exit 0))
 (.seq (.blk 1 (.seq (.reg [] [.o 8 (.mv (.t 6)),
 .o 2 (.mv (.k 8))] false [1,2,6] [])
 (.seq (.reg [] [.o 9 (.mv (.t 2)),
 .o 10 (.cv (.int .u32) (.k 9)),
 .o 3 (.mv (.k 10))] false [1,2,3,6] [])
 (.seq (.seq (.reg [] [.o 11 (.mv (.c (.i .i64 0)))] false [1,2,3,6,11] [])
 (.blk 2 (.loop (.seq (.reg [] [.o 12 (.bin .lss (.t 11) (.c (.i .i64 8)))] false [1,2,3,6,11,12] [])
 (.seq (.cond 12 .skip
 (.exit 2))
 (.seq (.blk 3 (.seq (.reg [] [.o 13 (.mv (.t 3)),
 .o 14 (.bin .and (.k 13) (.c (.i .u32 1))),
 .o 15 (.bin .eql (.k 14) (.c (.i .u32 1)))] false [1,2,3,6,11,15] [])
 (.cond 15 (.reg [] [.o 16 (.mv (.k 3)),
 .o 17 (.bin .shr (.k 16) (.c (.i .u64 1))),
 .o 18 (.bin .xor (.k 17) (.c (.i .u32 3988292384))),
 .o 3 (.mv (.k 18))] false [1,2,3,6,11] [])
 (.reg [] [.o 19 (.mv (.k 3)),
 .o 20 (.bin .shr (.k 19) (.c (.i .u64 1))),
 .o 3 (.mv (.k 20))] false [1,2,3,6,11] []))))
 (.reg [] [.o 21 (.bin .add (.k 11) (.c (.i .i64 1))),
 .o 11 (.mv (.k 21))] false [1,2,3,6,11] [])))))))
 (.reg [] [.o 22 (.mv (.t 1)),
 .o 23 (.mv (.k 2)),
 .o 24 (.mv (.k 3)),
 .o 25 (.nc (.k 22)),
 .o 26 (.ia 1 (some 256) (.k 25) (.k 23)),
 .s (.st 1 (.k 26) (.k 24))] false [1,6] [])))))
 (.reg [] [.o 27 (.bin .add (.k 6) (.c (.i .i64 1))),
 .o 6 (.mv (.k 27))] false [1,6] [])))))))
 (.seq (.reg [] [.o 28 (.mv (.k 1)),
 .o 0 (.mv (.k 28))] false [0] [])
 .ret))))⟩

def F_crc_Table_Seal : F := ⟨2,[.inl 4],
 (.seq (.reg [] [.o 4 (.mv (.c (.s ⟨#[]⟩)))] false [0,1] [])
 (.seq (.reg [] [.o 5 (.mv (.t 1)),
 .z 6 (.cv .bytes (.k 5)) 1,
 .o 7 (.mv (.k 0)),
 .o 8 (.mv (.k 1)),
 .z 9 (.bs 1 1 (.s ⟨#[]⟩) [(0,.k 8)]) 2,
 .o 10 (.call n_crc_Table_Sum [.k 7,.k 9]),
 .o 11 (.call n_octet_Word [.k 6,.k 10]),
 .o 12 (.cv .str (.k 11)),
 .o 4 (.mv (.k 12))] false [4] [])
 .ret))⟩

def F_elder_two : F := ⟨1,[.inl 2],
 (.seq (.reg [.zz 0] [.o 1 (.bx (.k 0)),
 .o 2 (.mv (.c (.l .o 1 [])))] false [1] [1])
 (.seq (.reg [] [.o 10 (.fa 1 (.t 1)),
 .o 11 (.ld false 1 .cp (.k 10)),
 .o 12 (.cv (.int .u64) (.k 11)),
 .o 13 (.call n_octet_Num [.c (.l .o 1 []),.k 12]),
 .o 3 (.mv (.k 13))] false [1,3] [1])
 (.seq (.seq (.reg [] [.o 14 (.fa 3 (.t 1)),
 .o 15 (.ld false 1 .cp (.k 14)),
 .o 16 (.len false (.t 15)),
 .o 17 (.mv (.c (.i .i64 0)))] false [1,3,15,16,17] [1])
 (.blk 0 (.loop (.seq (.reg [] [.o 18 (.bin .lss (.t 17) (.t 16))] false [1,3,15,16,17,18] [1])
 (.seq (.cond 18 .skip
 (.exit 0))
 (.seq (.blk 1 (.seq (.reg [] [.o 19 (.ia 1 none (.t 15) (.t 17)),
 .o 20 (.ld false 1 .cp (.k 19)),
 .o 5 (.mv (.k 20))] false [1,3,5,15,16,17] [1])
 (.seq (.reg [] [.o 21 (.mv (.k 3)),
 .o 22 (.mv (.t 5)),
 .o 23 (.len false (.k 22)),
 .o 24 (.cv (.int .u64) (.k 23)),
 .o 25 (.call n_octet_Num [.k 21,.k 24]),
 .o 3 (.mv (.k 25))] false [1,3,5,15,16,17] [1])
 (.seq (.reg [] [.o 26 (.mv (.k 5)),
 .o 27 (.len false (.t 26)),
 .o 28 (.mv (.c (.i .i64 0)))] false [1,3,15,16,17,26,27,28] [1])
 (.blk 2 (.loop (.seq (.reg [] [.o 29 (.bin .lss (.t 28) (.t 27))] false [1,3,15,16,17,26,27,28,29] [1])
 (.seq (.cond 29 .skip
 (.exit 2))
 (.seq (.blk 3 (.seq (.reg [] [.o 30 (.ia 2 none (.t 26) (.t 28)),
 .o 31 (.ld true 2 .cp (.k 30)),
 .o 7 (.al ([.f .f64 0,.i .i64 0])),
 .s (.st 2 (.t 7) (.k 31))] false [1,3,7,15,16,17,26,27,28] [1,7])
 (.reg [] [.o 32 (.mv (.k 3)),
 .u 33 (.ld true 2 .cp (.t 7)) [0] 0,
 .u 34 (.call n_pile_Item_Canon [.k 33]) [0] 0,
 .u 35 (.fd false 0 1 (.k 34)) [0] 0,
 .u 36 (.bits (.k 35)) [0] 0,
 .o 37 (.call n_octet_Long [.k 32,.k 36]),
 .u 38 (.fa 1 (.t 7)) [0,1,2,3,4,5] 0,
 .u 39 (.ld false 1 .cp (.k 38)) [0,1,2,3,4,5] 0,
 .o 40 (.call n_octet_Int [.k 37,.k 39]),
 .o 3 (.mv (.k 40))] true [1,3,15,16,17,26,27,28] [1])))
 (.reg [] [.o 41 (.bin .add (.k 28) (.c (.i .i64 1))),
 .o 28 (.mv (.k 41))] false [1,3,15,16,17,26,27,28] [1]))))))))))
 (.reg [] [.o 42 (.bin .add (.k 17) (.c (.i .i64 1))),
 .o 17 (.mv (.k 42))] false [1,3,15,16,17] [1])))))))
 (.seq (.seq (.reg [] [.o 43 (.fa 4 (.k 1)),
 .o 44 (.ld false 1 .tk (.k 43)),
 .o 45 (.len false (.t 44)),
 .o 46 (.mv (.c (.i .i64 0)))] false [3,44,45,46] [])
 (.blk 4 (.loop (.seq (.reg [] [.o 47 (.bin .lss (.t 46) (.t 45))] false [3,44,45,46,47] [])
 (.seq (.cond 47 .skip
 (.exit 4))
 (.seq (.blk 5 (.seq (.reg [] [.o 48 (.ia 1 none (.t 44) (.t 46)),
 .o 49 (.ld false 1 .cp (.k 48)),
 .o 9 (.mv (.k 49))] false [3,9,44,45,46] [])
 (.reg [] [.o 50 (.mv (.k 3)),
 .o 51 (.mv (.k 9)),
 .o 52 (.cv (.int .u64) (.k 51)),
 .o 53 (.call n_octet_Num [.k 50,.k 52]),
 .o 3 (.mv (.k 53))] false [3,44,45,46] [])))
 (.reg [] [.o 54 (.bin .add (.k 46) (.c (.i .i64 1))),
 .o 46 (.mv (.k 54))] false [3,44,45,46] [])))))))
 (.seq (.reg [] [.o 55 (.mv (.k 3)),
 .o 2 (.mv (.k 55))] false [2] [])
 .ret)))))⟩

def F_elder_three : F := ⟨1,[.inl 2],
 (.seq (.reg [.zz 0] [.o 1 (.bx (.k 0)),
 .o 2 (.mv (.c (.l .o 1 [])))] false [1] [1])
 (.seq (.reg [] [.z 9 (.ld true 5 .tk (.k 1)) 2,
 .o 10 (.call n_section_Of [.k 9]),
 .o 3 (.mv (.k 10))] false [3] [])
 (.seq (.reg [] [.o 11 (.mv (.t 3)),
 .o 12 (.len false (.k 11)),
 .o 13 (.cv (.int .u8) (.k 12)),
 .z 14 (.bs 1 1 (.i .u8 0) [(0,.k 13)]) 1,
 .o 4 (.mv (.k 14))] false [3,4] [])
 (.seq (.seq (.reg [] [.o 15 (.mv (.t 3)),
 .o 16 (.len false (.t 15)),
 .o 17 (.mv (.c (.i .i64 0)))] false [3,4,15,16,17] [])
 (.blk 0 (.loop (.seq (.reg [] [.o 18 (.bin .lss (.t 17) (.t 16))] false [3,4,15,16,17,18] [])
 (.seq (.cond 18 .skip
 (.exit 0))
 (.seq (.blk 1 (.seq (.reg [] [.o 19 (.ia 2 none (.t 15) (.t 17)),
 .o 20 (.ld true 2 .cp (.k 19)),
 .o 6 (.al ([.i .i64 0,.s ⟨#[]⟩])),
 .s (.st 2 (.t 6) (.k 20))] false [3,4,6,15,16,17] [6])
 (.reg [] [.o 21 (.mv (.k 4)),
 .u 22 (.fa 0 (.t 6)) [0] 0,
 .u 23 (.ld false 1 .cp (.k 22)) [0] 0,
 .u 24 (.cv (.int .u8) (.k 23)) [0] 0,
 .u 25 (.bs 1 1 (.i .u8 0) [(0,.k 24)]) [0] 0,
 .z 26 (.app 1 1 (.k 21) (.k 25)) 1,
 .u 27 (.fa 1 (.t 6)) [0,1,2,3,4,5] 0,
 .u 28 (.ld false 1 .cp (.k 27)) [0,1,2,3,4,5] 0,
 .u 29 (.len true (.k 28)) [0,1,2,3,4,5] 0,
 .u 30 (.cv (.int .u32) (.k 29)) [0,1,2,3,4,5] 0,
 .o 31 (.call n_octet_Word [.k 26,.k 30]),
 .o 4 (.mv (.k 31))] true [3,4,15,16,17] [])))
 (.reg [] [.o 32 (.bin .add (.k 17) (.c (.i .i64 1))),
 .o 17 (.mv (.k 32))] false [3,4,15,16,17] [])))))))
 (.seq (.seq (.reg [] [.o 33 (.mv (.k 3)),
 .o 34 (.len false (.t 33)),
 .o 35 (.mv (.c (.i .i64 0)))] false [4,33,34,35] [])
 (.blk 2 (.loop (.seq (.reg [] [.o 36 (.bin .lss (.t 35) (.t 34))] false [4,33,34,35,36] [])
 (.seq (.cond 36 .skip
 (.exit 2))
 (.seq (.blk 3 (.seq (.reg [] [.o 37 (.ia 2 none (.t 33) (.t 35)),
 .o 38 (.ld true 2 .cp (.k 37)),
 .o 8 (.al ([.i .i64 0,.s ⟨#[]⟩])),
 .s (.st 2 (.t 8) (.k 38))] false [4,8,33,34,35] [8])
 (.reg [] [.o 39 (.mv (.k 4)),
 .o 40 (.fa 1 (.k 8)),
 .o 41 (.ld false 1 .cp (.k 40)),
 .z 42 (.apps (.k 39) (.k 41)) 1,
 .o 4 (.mv (.k 42))] false [4,33,34,35] [])))
 (.reg [] [.o 43 (.bin .add (.k 35) (.c (.i .i64 1))),
 .o 35 (.mv (.k 43))] false [4,33,34,35] [])))))))
 (.seq (.reg [] [.o 44 (.mv (.k 4)),
 .o 2 (.mv (.k 44))] false [2] [])
 .ret))))))⟩

def F_file_Encode : F := ⟨1,[.inl 2,.inl 3],
 (.seq (.reg [.zz 0] [.o 1 (.bx (.k 0)),
 .o 2 (.mv (.c (.s ⟨#[]⟩))),
 .o 3 (.mv (.c (.i .i64 0)))] false [1] [1])
 (.seq (.seq (.reg [] [.z 13 (.ld true 5 .cp (.t 1)) 2,
 .o 14 (.call n_image_Image_Check [.k 13]),
 .o 4 (.mv (.k 14))] false [1,4] [1])
 (.seq (.reg [] [.o 15 (.mv (.t 4)),
 .o 16 (.bin .neq (.k 15) (.c (.i .i64 0)))] false [1,4,16] [1])
 (.cond 16 (.seq (.reg [] [.o 17 (.mv (.k 4)),
 .o 2 (.mv (.c (.s ⟨#[]⟩))),
 .o 3 (.mv (.k 17))] false [2,3] [])
 .ret)
 .skip)))
 (.seq (.reg [] [.o 18 (.call n_crc_Make []),
 .o 5 (.mv (.k 18))] false [1,5] [1])
 (.seq (.reg [] [.z 19 (.ld true 5 .cp (.t 1)) 2,
 .o 20 (.call n_section_Of [.k 19]),
 .o 6 (.mv (.k 20))] false [1,5,6] [1])
 (.seq (.reg [] [.o 21 (.mv (.t 6)),
 .o 22 (.len false (.k 21)),
 .o 23 (.bin .mul (.c (.i .i64 13)) (.k 22)),
 .o 24 (.bin .add (.c (.i .i64 11)) (.k 23)),
 .o 7 (.mv (.k 24))] false [1,5,6,7] [1])
 (.seq (.reg [] [.o 8 (.mv (.c (.l .o 1 []))),
 .o 9 (.mv (.c (.l .o 1 [])))] false [1,5,6,7,8,9] [1])
 (.seq (.seq (.reg [] [.o 25 (.mv (.t 6)),
 .o 26 (.len false (.t 25)),
 .o 27 (.mv (.c (.i .i64 0)))] false [1,5,6,7,8,9,25,26,27] [1])
 (.blk 0 (.loop (.seq (.reg [] [.o 28 (.bin .lss (.t 27) (.t 26))] false [1,5,6,7,8,9,25,26,27,28] [1])
 (.seq (.cond 28 .skip
 (.exit 0))
 (.seq (.blk 1 (.seq (.reg [] [.o 29 (.ia 2 none (.t 25) (.t 27)),
 .o 30 (.ld true 2 .cp (.k 29)),
 .o 11 (.al ([.i .i64 0,.s ⟨#[]⟩])),
 .s (.st 2 (.t 11) (.k 30))] false [1,5,6,7,8,9,11,25,26,27] [1,11])
 (.seq (.reg [] [.o 31 (.mv (.k 8)),
 .o 32 (.fa 0 (.t 11)),
 .o 33 (.ld false 1 .cp (.k 32)),
 .o 34 (.cv (.int .u8) (.k 33)),
 .o 35 (.bs 1 1 (.i .u8 0) [(0,.k 34)]),
 .z 36 (.app 1 1 (.k 31) (.k 35)) 1,
 .o 8 (.mv (.k 36))] false [1,5,6,7,8,9,11,25,26,27] [1,11])
 (.seq (.reg [] [.o 37 (.mv (.k 8)),
 .u 38 (.mv (.t 7)) [0] 0,
 .u 39 (.mv (.t 9)) [0,1] 0,
 .u 40 (.len false (.k 39)) [0,1] 0,
 .u 41 (.bin .add (.k 38) (.k 40)) [0] 0,
 .u 42 (.cv (.int .u32) (.k 41)) [0] 0,
 .o 43 (.call n_octet_Word [.k 37,.k 42]),
 .u 44 (.fa 1 (.t 11)) [0,1,2,3,4,5,6] 0,
 .u 45 (.ld false 1 .cp (.k 44)) [0,1,2,3,4,5,6] 0,
 .u 46 (.len true (.k 45)) [0,1,2,3,4,5,6] 0,
 .u 47 (.cv (.int .u32) (.k 46)) [0,1,2,3,4,5,6] 0,
 .o 48 (.call n_octet_Word [.k 43,.k 47]),
 .u 49 (.mv (.t 5)) [0,1,2,3,4,5,6,7,8,9,10,11] 0,
 .u 50 (.fa 1 (.t 11)) [0,1,2,3,4,5,6,7,8,9,10,11,12] 0,
 .u 51 (.ld false 1 .cp (.k 50)) [0,1,2,3,4,5,6,7,8,9,10,11,12] 0,
 .u 52 (.bs 1 1 (.s ⟨#[]⟩) [(0,.k 51)]) [0,1,2,3,4,5,6,7,8,9,10,11,12] 2,
 .o 53 (.call n_crc_Table_Sum [.k 49,.k 52]),
 .o 54 (.call n_octet_Word [.k 48,.k 53]),
 .o 8 (.mv (.k 54))] true [1,5,6,7,8,9,11,25,26,27] [1,11])
 (.reg [] [.o 55 (.mv (.k 9)),
 .o 56 (.fa 1 (.k 11)),
 .o 57 (.ld false 1 .cp (.k 56)),
 .z 58 (.apps (.k 55) (.k 57)) 1,
 .o 9 (.mv (.k 58))] false [1,5,6,7,8,9,25,26,27] [1])))))
 (.reg [] [.o 59 (.bin .add (.k 27) (.c (.i .i64 1))),
 .o 27 (.mv (.k 59))] false [1,5,6,7,8,9,25,26,27] [1])))))))
 (.seq (.reg [] [.o 60 (.bs 1 4 (.i .u8 0) [(0,.c (.i .u8 67)),(1,.c (.i .u8 82)),(2,.c (.i .u8 89)),(3,.c (.i .u8 79))]),
 .z 61 (.cv .mark (.k 60)) 1,
 .o 62 (.fa 0 (.k 1)),
 .o 63 (.ld false 1 .cp (.k 62)),
 .o 64 (.cv (.int .u8) (.k 63)),
 .o 65 (.bs 1 2 (.i .u8 0) [(0,.c (.i .u8 4)),(1,.k 64)]),
 .z 66 (.app 1 1 (.k 61) (.k 65)) 1,
 .o 12 (.mv (.k 66))] false [5,6,7,8,9,12] [])
 (.seq (.reg [] [.o 67 (.mv (.k 12)),
 .o 68 (.mv (.k 7)),
 .o 69 (.mv (.t 9)),
 .o 70 (.len false (.k 69)),
 .o 71 (.bin .add (.k 68) (.k 70)),
 .o 72 (.bin .add (.k 71) (.c (.i .i64 4))),
 .o 73 (.cv (.int .u32) (.k 72)),
 .o 74 (.call n_octet_Word [.k 67,.k 73]),
 .o 12 (.mv (.k 74))] false [5,6,8,9,12] [])
 (.seq (.reg [] [.o 75 (.mv (.k 12)),
 .o 76 (.mv (.k 6)),
 .o 77 (.len false (.k 76)),
 .o 78 (.cv (.int .u8) (.k 77)),
 .o 79 (.bs 1 1 (.i .u8 0) [(0,.k 78)]),
 .z 80 (.app 1 1 (.k 75) (.k 79)) 1,
 .o 81 (.mv (.k 8)),
 .z 82 (.app 1 1 (.k 80) (.k 81)) 1,
 .o 83 (.mv (.k 9)),
 .z 84 (.app 1 1 (.k 82) (.k 83)) 1,
 .o 12 (.mv (.k 84))] false [5,12] [])
 (.seq (.reg [] [.o 85 (.mv (.k 5)),
 .o 86 (.mv (.k 12)),
 .o 87 (.cv .str (.k 86)),
 .o 88 (.call n_crc_Table_Seal [.k 85,.k 87]),
 .o 2 (.mv (.k 88)),
 .o 3 (.mv (.c (.i .i64 0)))] false [2,3] [])
 .ret)))))))))))⟩

def F_pile_Sorted : F := ⟨1,[.inl 2],
 (.seq (.reg [.zz 0] [.o 2 (.mv (.c (.l .o 2 [])))] false [0] [])
 (.seq (.reg [] [.z 3 (.mv (.k 0)) 2,
 .o 4 (.call n_pile_New [.k 3]),
 .o 5 (.call n_pile_Pile_All [.k 4]),
 .o 2 (.mv (.k 5))] false [2] [])
 .ret))⟩

def F_pile_Item_Cmp : F := ⟨2,[.inl 4],
 (.seq (.reg [] [.o 2 (.bx (.k 0)),
 .o 3 (.bx (.k 1)),
 .o 4 (.mv (.c (.i .i64 0)))] false [2,3] [2,3])
 (.seq (.seq (.reg [] [.o 6 (.fa 0 (.t 2)),
 .o 7 (.ld false 1 .cp (.k 6)),
 .o 8 (.fa 0 (.t 3)),
 .o 9 (.ld false 1 .cp (.k 8)),
 .o 10 (.call n_real_Cmp [.k 7,.k 9]),
 .o 5 (.mv (.k 10))] false [2,3,5] [2,3])
 (.seq (.reg [] [.o 11 (.mv (.t 5)),
 .o 12 (.bin .neq (.k 11) (.c (.i .i64 0)))] false [2,3,5,12] [2,3])
 (.cond 12 (.seq (.reg [] [.o 13 (.mv (.k 5)),
 .o 4 (.mv (.k 13))] false [4] [])
 .ret)
 .skip)))
 (.seq (.blk 0 (.seq (.reg [] [.o 15 (.fa 1 (.t 2)),
 .o 16 (.ld false 1 .cp (.k 15)),
 .o 17 (.fa 1 (.t 3)),
 .o 18 (.ld false 1 .cp (.k 17)),
 .o 19 (.bin .lss (.k 16) (.k 18)),
 .o 14 (.mv (.k 19))] false [2,3,14] [2,3])
 (.cond 14 (.seq (.reg [] [.o 4 (.mv (.c (.i .i64 (-1))))] false [4] [])
 .ret)
 (.seq (.reg [] [.o 21 (.fa 1 (.k 2)),
 .o 22 (.ld false 1 .cp (.k 21)),
 .o 23 (.fa 1 (.k 3)),
 .o 24 (.ld false 1 .cp (.k 23)),
 .o 25 (.bin .gtr (.k 22) (.k 24)),
 .o 20 (.mv (.k 25))] false [20] [])
 (.cond 20 (.seq (.reg [] [.o 4 (.mv (.c (.i .i64 1)))] false [4] [])
 .ret)
 .skip)))))
 (.seq (.reg [] [.o 4 (.mv (.c (.i .i64 0)))] false [4] [])
 .ret))))⟩

def F_file_reader_begin : F := ⟨2,[.inl 4,.inl 5,.inl 6],
 (.seq (.reg [] [.o 4 (.mv (.c (.nilp))),
 .o 5 (.mv (.c (.i .i64 0))),
 .o 6 (.mv (.c (.i .i64 0)))] false [0,1] [])
 (.seq (.blk 0 (.seq (.reg [] [.o 13 (.mv (.t 1)),
 .o 14 (.call n_strings_HasPrefix [.k 13,.c (.s ⟨#[67,82,89,79]⟩)]),
 .o 15 (.un .not (.k 14)),
 .o 12 (.mv (.k 15))] false [0,1,12] [])
 (.cond 12 (.seq (.reg [] [.o 4 (.mv (.c (.nilp))),
 .o 5 (.mv (.c (.i .i64 0))),
 .o 6 (.mv (.c (.i .i64 10)))] false [4,5,6] [])
 .ret)
 (.seq (.reg [] [.o 17 (.mv (.t 1)),
 .o 18 (.len true (.k 17)),
 .o 19 (.bin .gtr (.k 18) (.c (.i .i64 65536))),
 .o 16 (.mv (.k 19))] false [0,1,16] [])
 (.cond 16 (.seq (.reg [] [.o 4 (.mv (.c (.nilp))),
 .o 5 (.mv (.c (.i .i64 0))),
 .o 6 (.mv (.c (.i .i64 3)))] false [4,5,6] [])
 .ret)
 .skip)))))
 (.seq (.reg [] [.o 20 (.mv (.t 1)),
 .o 21 (.call n_octet_Of [.k 20]),
 .o 7 (.mv (.k 21))] false [0,1,7] [])
 (.seq (.reg [] [.o 22 (.mv (.t 7)),
 .o 23 (.call n_octet_In_Bytes [.k 22,.c (.i .i64 4)])] false [0,1,7] [])
 (.seq (.reg [] [.o 24 (.mv (.t 7)),
 .o 25 (.call n_octet_In_Byte [.k 24]),
 .o 26 (.mv (.t 7)),
 .o 27 (.call n_octet_In_Byte [.k 26]),
 .o 28 (.cv (.int .i64) (.k 27)),
 .o 29 (.mv (.t 7)),
 .o 30 (.call n_octet_In_Word [.k 29]),
 .o 31 (.cv (.int .i64) (.k 30)),
 .o 8 (.mv (.k 25)),
 .o 9 (.mv (.k 28)),
 .o 10 (.mv (.k 31))] false [0,1,7,8,9,10] [])
 (.seq (.blk 1 (.seq (.reg [] [.o 33 (.mv (.t 1)),
 .o 34 (.len true (.k 33)),
 .o 35 (.bin .gtr (.k 34) (.c (.i .i64 4))),
 .o 36 (.mv (.k 35)),
 .c 36 true 37 (.mv (.k 8)),
 .c 36 true 38 (.bin .neq (.k 37) (.c (.i .u8 4))),
 .o 39 (.pick (.k 36) (.k 38) (.c (.b false))),
 .o 32 (.mv (.k 39))] false [0,1,7,9,10,32] [])
 (.cond 32 (.seq (.reg [] [.o 4 (.mv (.c (.nilp))),
 .o 5 (.mv (.c (.i .i64 0))),
 .o 6 (.mv (.c (.i .i64 8)))] false [4,5,6] [])
 .ret)
 (.seq (.reg [] [.o 41 (.mv (.t 7)),
 .o 42 (.call n_octet_In_Err [.k 41]),
 .o 43 (.bin .neq (.k 42) (.c (.i .i64 0))),
 .o 40 (.mv (.k 43))] false [0,1,7,9,10,40] [])
 (.cond 40 (.seq (.reg [] [.o 44 (.mv (.k 7)),
 .o 45 (.call n_octet_In_Err [.k 44]),
 .o 4 (.mv (.c (.nilp))),
 .o 5 (.mv (.c (.i .i64 0))),
 .o 6 (.mv (.k 45))] false [4,5,6] [])
 .ret)
 (.seq (.reg [] [.o 47 (.mv (.t 10)),
 .o 48 (.mv (.t 1)),
 .o 49 (.len true (.k 48)),
 .o 50 (.bin .gtr (.k 47) (.k 49)),
 .o 46 (.mv (.k 50))] false [0,1,9,10,46] [])
 (.cond 46 (.seq (.reg [] [.o 4 (.mv (.c (.nilp))),
 .o 5 (.mv (.c (.i .i64 0))),
 .o 6 (.mv (.c (.i .i64 1)))] false [4,5,6] [])
 .ret)
 (.seq (.reg [] [.o 52 (.mv (.k 10)),
 .o 53 (.mv (.t 1)),
 .o 54 (.len true (.k 53)),
 .o 55 (.bin .lss (.k 52) (.k 54)),
 .o 51 (.mv (.k 55))] false [0,1,9,51] [])
 (.cond 51 (.seq (.reg [] [.o 4 (.mv (.c (.nilp))),
 .o 5 (.mv (.c (.i .i64 0))),
 .o 6 (.mv (.c (.i .i64 2)))] false [4,5,6] [])
 .ret)
 .skip)))))))))
 (.seq (.reg [] [.o 11 (.mv (.c (.i .i64 0)))] false [0,1,9] [])
 (.seq (.reg [] [.o 57 (.mv (.t 0)),
 .o 58 (.mv (.t 0)),
 .o 59 (.nc (.k 58)),
 .o 60 (.fa 0 (.k 59)),
 .o 61 (.ld false 1 .cp (.k 60)),
 .o 62 (.mv (.k 1)),
 .o 63 (.call n_crc_Table_Open [.k 61,.k 62]),
 .o 56 (.mv (.k 63)),
 .o 64 (.ex false 0 56),
 .o 65 (.ex false 1 56),
 .o 66 (.nc (.k 57)),
 .o 67 (.fa 1 (.k 66)),
 .s (.st 1 (.k 67) (.k 64)),
 .o 11 (.mv (.k 65))] false [0,9,11] [])
 (.seq (.reg [] [.o 68 (.mv (.k 0)),
 .o 69 (.nc (.k 68)),
 .o 70 (.fa 1 (.k 69)),
 .o 71 (.ld false 1 .cp (.k 70)),
 .o 72 (.call n_octet_Of [.k 71]),
 .o 7 (.mv (.k 72))] false [7,9,11] [])
 (.seq (.reg [] [.o 73 (.mv (.t 7)),
 .o 74 (.call n_octet_In_Bytes [.k 73,.c (.i .i64 10)])] false [7,9,11] [])
 (.seq (.reg [] [.o 75 (.mv (.k 7)),
 .o 76 (.mv (.k 9)),
 .o 77 (.mv (.k 11)),
 .o 4 (.mv (.k 75)),
 .o 5 (.mv (.k 76)),
 .o 6 (.mv (.k 77))] false [4,5,6] [])
 .ret)))))))))))⟩

def F_file_reader_sections : F := ⟨2,[.inl 4],
 (.seq (.reg [] [.o 4 (.mv (.c (.i .i64 0)))] false [0,1] [])
 (.seq (.reg [] [.o 13 (.mv (.t 1)),
 .o 14 (.call n_octet_In_Byte [.k 13]),
 .o 15 (.cv (.int .i64) (.k 14)),
 .o 5 (.mv (.k 15))] false [0,1,5] [])
 (.seq (.blk 0 (.seq (.reg [] [.o 17 (.mv (.t 1)),
 .o 18 (.call n_octet_In_Err [.k 17]),
 .o 19 (.bin .neq (.k 18) (.c (.i .i64 0))),
 .o 16 (.mv (.k 19))] false [0,1,5,16] [])
 (.cond 16 (.seq (.reg [] [.o 20 (.mv (.k 1)),
 .o 21 (.call n_octet_In_Err [.k 20]),
 .o 4 (.mv (.k 21))] false [4] [])
 .ret)
 (.seq (.reg [] [.o 23 (.mv (.t 5)),
 .o 24 (.bin .neq (.k 23) (.c (.i .i64 2))),
 .o 22 (.mv (.k 24))] false [0,1,5,22] [])
 (.cond 22 (.seq (.reg [] [.o 4 (.mv (.c (.i .i64 2)))] false [4] [])
 .ret)
 .skip)))))
 (.seq (.reg [] [.o 25 (.mv (.t 5)),
 .o 26 (.bin .mul (.c (.i .i64 13)) (.k 25)),
 .o 27 (.bin .add (.c (.i .i64 11)) (.k 26)),
 .o 6 (.mv (.k 27))] false [0,1,5,6] [])
 (.seq (.seq (.reg [] [.o 28 (.mv (.k 5)),
 .o 29 (.mv (.c (.i .i64 0)))] false [0,1,6,28,29] [])
 (.blk 1 (.loop (.seq (.reg [] [.o 30 (.bin .lss (.t 29) (.t 28))] false [0,1,6,28,29,30] [])
 (.seq (.cond 30 .skip
 (.exit 1))
 (.seq (.blk 2 (.seq (.reg [] [.o 31 (.mv (.t 29)),
 .o 7 (.mv (.k 31))] false [0,1,6,7,28,29] [])
 (.seq (.reg [] [.o 32 (.mv (.t 1)),
 .o 33 (.call n_octet_In_Byte [.k 32]),
 .o 34 (.cv (.int .i64) (.k 33)),
 .o 35 (.mv (.t 1)),
 .o 36 (.call n_octet_In_Word [.k 35]),
 .o 37 (.cv (.int .i64) (.k 36)),
 .o 38 (.mv (.t 1)),
 .o 39 (.call n_octet_In_Word [.k 38]),
 .o 40 (.cv (.int .i64) (.k 39)),
 .o 41 (.mv (.t 1)),
 .o 42 (.call n_octet_In_Word [.k 41]),
 .o 8 (.mv (.k 34)),
 .o 9 (.mv (.k 37)),
 .o 10 (.mv (.k 40)),
 .o 11 (.mv (.k 42))] false [0,1,6,7,8,9,10,11,28,29] [])
 (.seq (.blk 3 (.seq (.reg [] [.o 44 (.mv (.t 1)),
 .o 45 (.call n_octet_In_Err [.k 44]),
 .o 46 (.bin .neq (.k 45) (.c (.i .i64 0))),
 .o 43 (.mv (.k 46))] false [0,1,6,7,8,9,10,11,28,29,43] [])
 (.cond 43 (.seq (.reg [] [.o 47 (.mv (.k 1)),
 .o 48 (.call n_octet_In_Err [.k 47]),
 .o 4 (.mv (.k 48))] false [4] [])
 .ret)
 (.seq (.reg [] [.o 50 (.mv (.t 8)),
 .o 51 (.mv (.k 7)),
 .o 52 (.bin .add (.k 51) (.c (.i .i64 1))),
 .o 53 (.bin .neq (.k 50) (.k 52)),
 .o 54 (.mv (.k 53)),
 .c 54 false 55 (.mv (.t 9)),
 .c 54 false 56 (.mv (.k 6)),
 .c 54 false 57 (.bin .neq (.k 55) (.k 56)),
 .o 58 (.pick (.k 54) (.c (.b true)) (.k 57)),
 .o 49 (.mv (.k 58))] false [0,1,8,9,10,11,28,29,49] [])
 (.cond 49 (.seq (.reg [] [.o 4 (.mv (.c (.i .i64 2)))] false [4] [])
 .ret)
 (.seq (.reg [] [.o 60 (.mv (.t 10)),
 .o 61 (.mv (.t 0)),
 .o 62 (.nc (.k 61)),
 .o 63 (.fa 1 (.k 62)),
 .o 64 (.ld false 1 .cp (.k 63)),
 .o 65 (.len true (.k 64)),
 .o 66 (.mv (.t 9)),
 .o 67 (.bin .sub (.k 65) (.k 66)),
 .o 68 (.bin .gtr (.k 60) (.k 67)),
 .o 59 (.mv (.k 68))] false [0,1,8,9,10,11,28,29,59] [])
 (.cond 59 (.seq (.reg [] [.o 4 (.mv (.c (.i .i64 1)))] false [4] [])
 .ret)
 .skip)))))))
 (.seq (.reg [] [.o 69 (.mv (.t 9)),
 .o 70 (.mv (.k 10)),
 .o 71 (.bin .add (.k 69) (.k 70)),
 .o 6 (.mv (.k 71))] false [0,1,6,8,9,11,28,29] [])
 (.seq (.reg [] [.o 72 (.mv (.t 0)),
 .o 73 (.nc (.k 72)),
 .o 74 (.fa 1 (.k 73)),
 .o 75 (.ld false 1 .cp (.k 74)),
 .o 76 (.mv (.k 9)),
 .o 77 (.mv (.t 6)),
 .o 78 (.ss (.k 75) (some (.k 76)) (some (.k 77))),
 .o 12 (.mv (.k 78))] false [0,1,6,8,11,12,28,29] [])
 (.seq (.seq (.reg [] [.o 79 (.mv (.t 0)),
 .o 80 (.nc (.k 79)),
 .o 81 (.fa 0 (.k 80)),
 .o 82 (.ld false 1 .cp (.k 81)),
 .o 83 (.mv (.t 12)),
 .z 84 (.bs 1 1 (.s ⟨#[]⟩) [(0,.k 83)]) 2,
 .o 85 (.call n_crc_Table_Sum [.k 82,.k 84]),
 .o 86 (.mv (.k 11)),
 .o 87 (.bin .neq (.k 85) (.k 86))] false [0,1,6,8,12,28,29,87] [])
 (.cond 87 (.seq (.reg [] [.o 4 (.mv (.c (.i .i64 7)))] false [4] [])
 .ret)
 .skip))
 (.reg [] [.o 88 (.mv (.t 0)),
 .o 89 (.mv (.t 0)),
 .o 90 (.nc (.k 89)),
 .o 91 (.fa 2 (.k 90)),
 .o 92 (.ld false 1 .tk (.k 91)),
 .o 93 (.mv (.k 8)),
 .o 94 (.mv (.k 12)),
 .o 95 (.bd ([.i .i64 0,.s ⟨#[]⟩]) [(0,1,.k 93),(1,1,.k 94)]),
 .o 96 (.bs 2 1 (.a ([.i .i64 0,.s ⟨#[]⟩])) [(0,.k 95)]),
 .z 97 (.app 2 24 (.k 92) (.k 96)) 1,
 .o 98 (.nc (.k 88)),
 .o 99 (.fa 2 (.k 98)),
 .s (.st 1 (.k 99) (.k 97))] false [0,1,6,28,29] []))))))))
 (.reg [] [.o 100 (.bin .add (.k 29) (.c (.i .i64 1))),
 .o 29 (.mv (.k 100))] false [0,1,6,28,29] [])))))))
 (.seq (.seq (.reg [] [.o 101 (.mv (.k 6)),
 .o 102 (.mv (.k 0)),
 .o 103 (.nc (.k 102)),
 .o 104 (.fa 1 (.k 103)),
 .o 105 (.ld false 1 .cp (.k 104)),
 .o 106 (.len true (.k 105)),
 .o 107 (.bin .neq (.k 101) (.k 106))] false [107] [])
 (.cond 107 (.seq (.reg [] [.o 4 (.mv (.c (.i .i64 2)))] false [4] [])
 .ret)
 .skip))
 (.seq (.reg [] [.o 4 (.mv (.c (.i .i64 0)))] false [4] [])
 .ret)))))))⟩

def F_section_Read : F := ⟨2,[.inr (4,true,5),.inl 5],
 (.seq (.reg [.zz 1] [.o 4 (.al ([.i .i64 0,.i .i64 0,.i .u64 0,.l .o 1 [],.l .o 1 []])),
 .o 5 (.mv (.c (.i .i64 0)))] false [0,1,4] [4])
 (.seq (.blk 0 (.seq (.reg [] [.o 10 (.mv (.t 0)),
 .o 11 (.bin .lss (.k 10) (.c (.i .i64 1))),
 .o 12 (.mv (.k 11)),
 .c 12 false 13 (.mv (.t 0)),
 .c 12 false 14 (.bin .gtr (.k 13) (.c (.i .i64 4))),
 .o 15 (.pick (.k 12) (.c (.b true)) (.k 14)),
 .o 9 (.mv (.k 15))] false [0,1,4,9] [4])
 (.cond 9 (.seq (.reg [] [.o 16 (.bd ([.i .i64 0,.i .i64 0,.i .u64 0,.l .o 1 [],.l .o 1 []]) []),
 .s (.st 5 (.t 4) (.k 16)),
 .o 5 (.mv (.c (.i .i64 6)))] false [4,5] [4])
 .ret)
 (.seq (.reg [] [.o 18 (.mv (.t 1)),
 .o 19 (.len false (.k 18)),
 .o 20 (.bin .neq (.k 19) (.c (.i .i64 2))),
 .o 21 (.mv (.k 20)),
 .c 21 false 22 (.mv (.t 1)),
 .c 21 false 23 (.ia 2 none (.k 22) (.c (.i .i64 0))),
 .c 21 false 24 (.fa 0 (.k 23)),
 .c 21 false 25 (.ld false 1 .cp (.k 24)),
 .c 21 false 26 (.bin .neq (.k 25) (.c (.i .i64 1))),
 .o 27 (.pick (.k 21) (.c (.b true)) (.k 26)),
 .o 28 (.mv (.k 27)),
 .c 28 false 29 (.mv (.t 1)),
 .c 28 false 30 (.ia 2 none (.k 29) (.c (.i .i64 1))),
 .c 28 false 31 (.fa 0 (.k 30)),
 .c 28 false 32 (.ld false 1 .cp (.k 31)),
 .c 28 false 33 (.bin .neq (.k 32) (.c (.i .i64 2))),
 .o 34 (.pick (.k 28) (.c (.b true)) (.k 33)),
 .o 17 (.mv (.k 34))] false [0,1,4,17] [4])
 (.cond 17 (.seq (.reg [] [.o 35 (.bd ([.i .i64 0,.i .i64 0,.i .u64 0,.l .o 1 [],.l .o 1 []]) []),
 .s (.st 5 (.t 4) (.k 35)),
 .o 5 (.mv (.c (.i .i64 2)))] false [4,5] [4])
 .ret)
 .skip)))))
 (.seq (.reg [] [.o 36 (.mv (.t 1)),
 .o 37 (.ia 2 none (.k 36) (.c (.i .i64 0))),
 .o 38 (.fa 1 (.k 37)),
 .o 39 (.ld false 1 .cp (.k 38)),
 .o 40 (.call n_octet_Of [.k 39]),
 .o 6 (.mv (.k 40))] false [0,1,4,6] [4])
 (.seq (.reg [] [.o 41 (.mv (.t 0)),
 .o 42 (.mv (.t 6)),
 .o 43 (.call n_octet_In_Num [.k 42,.c (.i .u64 255)]),
 .o 44 (.cv (.int .i64) (.k 43)),
 .o 45 (.bd ([.i .i64 0,.i .i64 0,.i .u64 0,.l .o 1 [],.l .o 1 []]) [(0,1,.k 41),(1,1,.k 44)]),
 .o 7 (.al ([.i .i64 0,.i .i64 0,.i .u64 0,.l .o 1 [],.l .o 1 []])),
 .s (.st 5 (.t 7) (.k 45))] false [0,1,4,6,7] [4,7])
 (.seq (.reg [] [.o 46 (.mv (.t 6)),
 .o 47 (.call n_octet_In_Num [.k 46,.c (.i .u64 18446744073709551615)]),
 .o 48 (.fa 2 (.t 7)),
 .s (.st 1 (.k 48) (.k 47))] false [0,1,4,6,7] [4,7])
 (.seq (.reg [] [.o 49 (.mv (.k 6)),
 .o 50 (.call n_octet_In_End [.k 49]),
 .o 8 (.mv (.k 50))] false [0,1,4,7,8] [4,7])
 (.seq (.seq (.reg [] [.o 51 (.mv (.t 8)),
 .o 52 (.bin .eql (.k 51) (.c (.i .i64 0)))] false [0,1,4,7,8,52] [4,7])
 (.cond 52 (.reg [] [.o 54 (.mv (.k 0)),
 .u 55 (.fa 1 (.t 7)) [0] 0,
 .u 56 (.ld false 1 .cp (.k 55)) [0] 0,
 .u 57 (.mv (.k 1)) [0,1,2] 0,
 .u 58 (.ia 2 none (.k 57) (.c (.i .i64 1))) [0,1,2] 0,
 .u 59 (.fa 1 (.k 58)) [0,1,2] 0,
 .u 60 (.ld false 1 .cp (.k 59)) [0,1,2] 0,
 .u 61 (.call n_octet_Of [.k 60]) [0,1,2] 0,
 .o 62 (.call n_section_read [.k 54,.k 56,.k 61]),
 .o 53 (.mv (.k 62)),
 .o 63 (.ex false 0 53),
 .u 64 (.ex false 1 53) [10] 0,
 .u 65 (.ex false 2 53) [10,11] 0,
 .u 66 (.fa 3 (.t 7)) [11,12] 0,
 ⟨none,none,.st 1 (.k 66) (.k 63),[11,12],0⟩,
 .u 67 (.fa 4 (.t 7)) [12] 0,
 ⟨none,none,.st 1 (.k 67) (.k 64),[12],0⟩,
 .o 8 (.mv (.k 65))] true [4,7,8] [4,7])
 .skip))
 (.seq (.seq (.reg [] [.o 68 (.mv (.t 8)),
 .o 69 (.bin .neq (.k 68) (.c (.i .i64 0)))] false [4,7,8,69] [4,7])
 (.cond 69 (.seq (.reg [] [.o 70 (.bd ([.i .i64 0,.i .i64 0,.i .u64 0,.l .o 1 [],.l .o 1 []]) []),
 .o 71 (.mv (.k 8)),
 .s (.st 5 (.t 4) (.k 70)),
 .o 5 (.mv (.k 71))] false [4,5] [4])
 .ret)
 .skip))
 (.seq (.reg [] [.o 72 (.ld true 5 .tk (.k 7)),
 .s (.st 5 (.t 4) (.k 72)),
 .o 5 (.mv (.c (.i .i64 0)))] false [4,5] [4])
 .ret)))))))))⟩

def F_strings_HasPrefix : F := ⟨2,[.inl 4],
 (.seq (.reg [] [.o 4 (.mv (.c (.b false)))] false [0,1] [])
 (.seq (.reg [] [.o 5 (.mv (.k 0)),
 .o 6 (.mv (.k 1)),
 .o 7 (.call n_internal_stringslite_HasPrefix [.k 5,.k 6]),
 .o 4 (.mv (.k 7))] false [4] [])
 .ret))⟩

def F_c_ref04_With : F := ⟨2,[.inl 4],
 (.seq (.reg [.zz 0] [.o 3 (.bx (.k 1)),
 .o 4 (.mv (.c (.l .o 2 [])))] false [0,3] [3])
 (.seq (.reg [] [.z 9 (.bs 2 0 (.a ([.i .u64 0,.i .i64 0])) []) 1,
 .o 5 (.mv (.k 9))] false [0,3,5] [3])
 (.seq (.reg [] [.o 6 (.mv (.c (.b false)))] false [0,3,5,6] [3])
 (.seq (.seq (.reg [] [.o 10 (.mv (.k 0)),
 .o 11 (.len false (.t 10)),
 .o 12 (.mv (.c (.i .i64 0)))] false [3,5,6,10,11,12] [3])
 (.blk 0 (.loop (.seq (.reg [] [.o 13 (.bin .lss (.t 12) (.t 11))] false [3,5,6,10,11,12,13] [3])
 (.seq (.cond 13 .skip
 (.exit 0))
 (.seq (.blk 1 (.seq (.reg [] [.o 14 (.ia 2 none (.t 10) (.t 12)),
 .o 15 (.ld true 2 .cp (.k 14)),
 .o 8 (.al ([.i .u64 0,.i .i64 0])),
 .s (.st 2 (.t 8) (.k 15))] false [3,5,6,8,10,11,12] [3,8])
 (.seq (.seq (.reg [] [.o 16 (.mv (.t 6)),
 .o 17 (.un .not (.k 16)),
 .o 18 (.mv (.k 17)),
 .c 18 true 19 (.ld true 2 .cp (.t 3)),
 .c 18 true 20 (.ld true 2 .cp (.t 8)),
 .c 18 true 21 (.call n_c_ref04_Cmp [.k 19,.k 20]),
 .c 18 true 22 (.bin .lss (.k 21) (.c (.i .i64 0))),
 .o 23 (.pick (.k 18) (.k 22) (.c (.b false)))] false [3,5,6,8,10,11,12,23] [3,8])
 (.cond 23 (.seq (.reg [] [.o 24 (.mv (.k 5)),
 .o 25 (.ld true 2 .cp (.t 3)),
 .o 26 (.bs 2 1 (.a ([.i .u64 0,.i .i64 0])) [(0,.k 25)]),
 .z 27 (.app 2 16 (.k 24) (.k 26)) 1,
 .o 5 (.mv (.k 27))] false [3,5,8,10,11,12] [3,8])
 (.reg [] [.o 6 (.mv (.c (.b true)))] false [3,5,6,8,10,11,12] [3,8]))
 .skip))
 (.reg [] [.o 28 (.mv (.k 5)),
 .o 29 (.ld true 2 .cp (.k 8)),
 .o 30 (.bs 2 1 (.a ([.i .u64 0,.i .i64 0])) [(0,.k 29)]),
 .z 31 (.app 2 16 (.k 28) (.k 30)) 1,
 .o 5 (.mv (.k 31))] false [3,5,6,10,11,12] [3]))))
 (.reg [] [.o 32 (.bin .add (.k 12) (.c (.i .i64 1))),
 .o 12 (.mv (.k 32))] false [3,5,6,10,11,12] [3])))))))
 (.seq (.seq (.reg [] [.o 33 (.mv (.k 6)),
 .o 34 (.un .not (.k 33))] false [3,5,34] [3])
 (.cond 34 (.reg [] [.o 35 (.mv (.k 5)),
 .o 36 (.ld true 2 .cp (.k 3)),
 .o 37 (.bs 2 1 (.a ([.i .u64 0,.i .i64 0])) [(0,.k 36)]),
 .z 38 (.app 2 16 (.k 35) (.k 37)) 1,
 .o 5 (.mv (.k 38))] false [5] [])
 .skip))
 (.seq (.reg [] [.o 39 (.mv (.k 5)),
 .o 4 (.mv (.k 39))] false [4] [])
 .ret))))))⟩

def F_c_ref19_Items : F := ⟨1,[.inl 2],
 (.seq (.reg [.zz 0] [.o 2 (.mv (.c (.s ⟨#[]⟩)))] false [0] [])
 (.seq (.reg [] [.o 6 (.mv (.t 0)),
 .o 7 (.len false (.k 6)),
 .o 8 (.cv (.int .u64) (.k 7)),
 .o 9 (.call n_c_ref01_Num2 [.k 8]),
 .o 3 (.mv (.k 9))] false [0,3] [])
 (.seq (.seq (.reg [] [.o 10 (.mv (.k 0)),
 .o 11 (.len false (.t 10)),
 .o 12 (.mv (.c (.i .i64 0)))] false [3,10,11,12] [])
 (.blk 0 (.loop (.seq (.reg [] [.o 13 (.bin .lss (.t 12) (.t 11))] false [3,10,11,12,13] [])
 (.seq (.cond 13 .skip
 (.exit 0))
 (.seq (.blk 1 (.seq (.reg [] [.o 14 (.ia 2 none (.t 10) (.t 12)),
 .o 15 (.ld true 2 .cp (.k 14)),
 .o 5 (.al ([.i .u64 0,.i .i64 0])),
 .s (.st 2 (.t 5) (.k 15))] false [3,5,10,11,12] [5])
 (.reg [] [.o 16 (.mv (.k 3)),
 .u 17 (.fa 0 (.t 5)) [0] 0,
 .u 18 (.ld false 1 .cp (.k 17)) [0] 0,
 .u 19 (.call n_c_ref03_Key [.k 18]) [0] 0,
 .u 20 (.call n_c_ref01_Fixed [.k 19,.c (.i .i64 8)]) [0] 0,
 .u 21 (.fa 1 (.t 5)) [0,1,2,3,4] 0,
 .u 22 (.ld false 1 .cp (.k 21)) [0,1,2,3,4] 0,
 .u 23 (.call n_c_ref01_Int [.k 22]) [0] 0,
 .u 24 (.bin .add (.k 20) (.k 23)) [0] 0,
 .o 25 (.bin .add (.k 16) (.k 24)),
 .o 3 (.mv (.k 25))] true [3,10,11,12] [])))
 (.reg [] [.o 26 (.bin .add (.k 12) (.c (.i .i64 1))),
 .o 12 (.mv (.k 26))] false [3,10,11,12] [])))))))
 (.seq (.reg [] [.o 27 (.mv (.k 3)),
 .o 2 (.mv (.k 27))] false [2] [])
 .ret))))⟩

def F_c_ref20_word : F := ⟨1,[.inl 2],
 (.seq (.reg [] [.o 2 (.mv (.c (.s ⟨#[]⟩)))] false [0] [])
 (.seq (.reg [] [.o 3 (.mv (.k 0)),
 .o 4 (.cv (.int .u64) (.k 3)),
 .o 5 (.call n_c_ref01_Fixed [.k 4,.c (.i .i64 4)]),
 .o 2 (.mv (.k 5))] false [2] [])
 .ret))⟩

def F_c_ref20_entry : F := ⟨3,[.inl 6],
 (.seq (.reg [] [.o 6 (.mv (.c (.s ⟨#[]⟩)))] false [0,1,2] [])
 (.seq (.reg [] [.o 7 (.mv (.k 0)),
 .o 8 (.cv (.int .u8) (.k 7)),
 .z 9 (.bs 1 1 (.i .u8 0) [(0,.k 8)]) 1,
 .o 10 (.cv .str (.k 9)),
 .u 11 (.mv (.k 1)) [0,1,2,3] 0,
 .u 12 (.call n_c_ref20_word [.k 11]) [0,1,2,3] 0,
 .o 13 (.bin .add (.k 10) (.k 12)),
 .u 14 (.mv (.t 2)) [0,1,2,3,4,5,6] 0,
 .u 15 (.len true (.k 14)) [0,1,2,3,4,5,6] 0,
 .u 16 (.call n_c_ref20_word [.k 15]) [0,1,2,3,6] 0,
 .o 17 (.bin .add (.k 13) (.k 16)),
 .u 18 (.mv (.t 2)) [0,1,2,3,4,5,6,7,8,9,10] 0,
 .u 19 (.call n_c_ref02_Sum [.k 18]) [0,1,2,3,6,10] 0,
 .u 20 (.cv (.int .i64) (.k 19)) [0,1,2,3,6,10] 0,
 .u 21 (.call n_c_ref20_word [.k 20]) [0,1,2,3,6,10] 0,
 .o 22 (.bin .add (.k 17) (.k 21)),
 .o 6 (.mv (.k 22))] true [6] [])
 .ret))⟩

def F_c_ref03_Bits : F := ⟨1,[.inl 2],
 (.seq (.reg [] [.o 2 (.mv (.c (.i .u64 0)))] false [0] [])
 (.seq (.seq (.reg [] [.o 3 (.mv (.t 0)),
 .o 4 (.bin .rem (.k 3) (.c (.i .u64 9223372036854775808))),
 .o 5 (.bin .gtr (.k 4) (.c (.i .u64 9218868437227405312)))] false [0,5] [])
 (.cond 5 (.seq (.reg [] [.o 2 (.mv (.c (.i .u64 9221120237041090560)))] false [2] [])
 .ret)
 .skip))
 (.seq (.reg [] [.o 6 (.mv (.k 0)),
 .o 2 (.mv (.k 6))] false [2] [])
 .ret)))⟩

def F_c_law03_F : F := ⟨1,[.inl 2],
 (.seq (.reg [] [.o 2 (.mv (.c (.f .f64 0)))] false [0] [])
 (.seq (.reg [] [.o 3 (.mv (.k 0)),
 .o 4 (.frbits (.k 3)),
 .o 2 (.mv (.k 4))] false [2] [])
 .ret))⟩

def F_real_Canon : F := ⟨1,[.inl 2],
 (.seq (.reg [] [.o 2 (.mv (.c (.f .f64 0)))] false [0] [])
 (.seq (.seq (.reg [] [.o 3 (.mv (.t 0)),
 .o 4 (.mv (.t 0)),
 .o 5 (.bin .neq (.k 3) (.k 4))] false [0,5] [])
 (.cond 5 (.seq (.reg [] [.o 6 (.frbits (.c (.i .u64 9221120237041090560))),
 .o 2 (.mv (.k 6))] false [2] [])
 .ret)
 .skip))
 (.seq (.reg [] [.o 7 (.mv (.k 0)),
 .o 2 (.mv (.k 7))] false [2] [])
 .ret)))⟩

def F_c_ref02_Bits : F := ⟨1,[.inl 2],
 (.seq (.reg [] [.o 2 (.mv (.c (.l .x 1 [])))] false [0] [])
 (.seq (.reg [] [.o 7 (.bs 1 0 (.i .i64 0) []),
 .o 3 (.mv (.k 7))] false [0,3] [])
 (.seq (.seq (.reg [] [.o 4 (.mv (.c (.i .i64 0)))] false [0,3,4] [])
 (.blk 0 (.loop (.seq (.seq (.reg [] [.o 8 (.mv (.t 4)),
 .o 9 (.mv (.t 0)),
 .o 10 (.len true (.k 9)),
 .o 11 (.bin .lss (.k 8) (.k 10))] false [0,3,4,11] [])
 (.cond 11 .skip
 (.exit 0)))
 (.seq (.blk 1 (.seq (.reg [] [.o 14 (.mv (.t 0)),
 .o 15 (.mv (.t 4)),
 .o 16 (.ixs (.k 14) (.k 15)),
 .o 17 (.cv (.int .i64) (.k 16)),
 .o 5 (.mv (.k 17))] false [0,3,4,5] [])
 (.seq (.reg [] [.o 6 (.mv (.c (.i .i64 0)))] false [0,3,4,5,6] [])
 (.blk 2 (.loop (.seq (.seq (.reg [] [.o 18 (.mv (.t 6)),
 .o 19 (.bin .lss (.k 18) (.c (.i .i64 8)))] false [0,3,4,5,6,19] [])
 (.cond 19 .skip
 (.exit 2)))
 (.seq (.blk 3 (.seq (.reg [] [.o 22 (.mv (.k 3)),
 .o 23 (.mv (.t 5)),
 .o 24 (.bin .rem (.k 23) (.c (.i .i64 2))),
 .o 25 (.bs 1 1 (.i .i64 0) [(0,.k 24)]),
 .o 26 (.app 1 8 (.k 22) (.k 25)),
 .o 3 (.mv (.k 26))] false [0,3,4,5,6] [])
 (.reg [] [.o 27 (.mv (.k 5)),
 .o 28 (.bin .quo (.k 27) (.c (.i .i64 2))),
 .o 5 (.mv (.k 28))] false [0,3,4,5,6] [])))
 (.reg [] [.o 20 (.mv (.k 6)),
 .o 21 (.bin .add (.k 20) (.c (.i .i64 1))),
 .o 6 (.mv (.k 21))] false [0,3,4,5,6] []))))))))
 (.reg [] [.o 12 (.mv (.k 4)),
 .o 13 (.bin .add (.k 12) (.c (.i .i64 1))),
 .o 4 (.mv (.k 13))] false [0,3,4] []))))))
 (.seq (.reg [] [.o 29 (.mv (.k 3)),
 .o 2 (.mv (.k 29))] false [2] [])
 .ret))))⟩

def F_c_ref21_Version : F := ⟨1,[.inl 2,.inl 3],
 (.seq (.reg [] [.o 2 (.mv (.c (.i .i64 0))),
 .o 3 (.mv (.c (.i .i64 0)))] false [0] [])
 (.seq (.seq (.reg [] [.o 4 (.mv (.t 0)),
 .o 5 (.len true (.k 4)),
 .o 6 (.bin .lss (.k 5) (.c (.i .i64 4))),
 .o 7 (.mv (.k 6)),
 .c 7 false 8 (.mv (.t 0)),
 .c 7 false 9 (.ss (.k 8) none (some (.c (.i .i64 4)))),
 .c 7 false 10 (.bin .neq (.k 9) (.c (.s ⟨#[67,82,89,79]⟩))),
 .o 11 (.pick (.k 7) (.c (.b true)) (.k 10))] false [0,11] [])
 (.cond 11 (.seq (.reg [] [.o 2 (.mv (.c (.i .i64 0))),
 .o 3 (.mv (.c (.i .i64 10)))] false [2,3] [])
 .ret)
 .skip))
 (.seq (.seq (.reg [] [.o 12 (.mv (.t 0)),
 .o 13 (.len true (.k 12)),
 .o 14 (.bin .gtr (.k 13) (.c (.i .i64 65536)))] false [0,14] [])
 (.cond 14 (.seq (.reg [] [.o 2 (.mv (.c (.i .i64 0))),
 .o 3 (.mv (.c (.i .i64 3)))] false [2,3] [])
 .ret)
 .skip))
 (.seq (.seq (.reg [] [.o 15 (.mv (.t 0)),
 .o 16 (.len true (.k 15)),
 .o 17 (.bin .lss (.k 16) (.c (.i .i64 5)))] false [0,17] [])
 (.cond 17 (.seq (.reg [] [.o 2 (.mv (.c (.i .i64 0))),
 .o 3 (.mv (.c (.i .i64 1)))] false [2,3] [])
 .ret)
 .skip))
 (.seq (.seq (.reg [] [.o 18 (.mv (.t 0)),
 .o 19 (.ixs (.k 18) (.c (.i .i64 4))),
 .o 20 (.bin .lss (.k 19) (.c (.i .u8 1))),
 .o 21 (.mv (.k 20)),
 .c 21 false 22 (.mv (.t 0)),
 .c 21 false 23 (.ixs (.k 22) (.c (.i .i64 4))),
 .c 21 false 24 (.bin .gtr (.k 23) (.c (.i .u8 4))),
 .o 25 (.pick (.k 21) (.c (.b true)) (.k 24))] false [0,25] [])
 (.cond 25 (.seq (.reg [] [.o 2 (.mv (.c (.i .i64 0))),
 .o 3 (.mv (.c (.i .i64 8)))] false [2,3] [])
 .ret)
 .skip))
 (.seq (.reg [] [.o 26 (.mv (.k 0)),
 .o 27 (.ixs (.k 26) (.c (.i .i64 4))),
 .o 28 (.cv (.int .i64) (.k 27)),
 .o 2 (.mv (.k 28)),
 .o 3 (.mv (.c (.i .i64 0)))] false [2,3] [])
 .ret))))))⟩

def F_c_ref20_Decode : F := ⟨1,[.inr (2,true,5),.inl 3],
 (.seq (.reg [] [.o 2 (.al ([.i .i64 0,.i .i64 0,.i .u64 0,.l .o 1 [],.l .o 1 []])),
 .o 3 (.mv (.c (.i .i64 0)))] false [0,2] [2])
 (.seq (.reg [] [.o 14 (.bd ([.i .i64 0,.i .i64 0,.i .u64 0,.l .o 1 [],.l .o 1 []]) []),
 .o 4 (.al ([.i .i64 0,.i .i64 0,.i .u64 0,.l .o 1 [],.l .o 1 []])),
 .s (.st 5 (.t 4) (.k 14))] false [0,2,4] [2,4])
 (.seq (.blk 0 (.seq (.reg [] [.o 16 (.mv (.t 0)),
 .o 17 (.len true (.k 16)),
 .o 18 (.bin .lss (.k 17) (.c (.i .i64 4))),
 .o 19 (.mv (.k 18)),
 .c 19 false 20 (.mv (.t 0)),
 .c 19 false 21 (.ss (.k 20) none (some (.c (.i .i64 4)))),
 .c 19 false 22 (.bin .neq (.k 21) (.c (.s ⟨#[67,82,89,79]⟩))),
 .o 23 (.pick (.k 19) (.c (.b true)) (.k 22)),
 .o 15 (.mv (.k 23))] false [0,2,4,15] [2,4])
 (.cond 15 (.seq (.reg [] [.o 24 (.ld true 5 .tk (.k 4)),
 .s (.st 5 (.t 2) (.k 24)),
 .o 3 (.mv (.c (.i .i64 10)))] false [2,3] [2])
 .ret)
 (.seq (.reg [] [.o 26 (.mv (.t 0)),
 .o 27 (.len true (.k 26)),
 .o 28 (.bin .gtr (.k 27) (.c (.i .i64 65536))),
 .o 25 (.mv (.k 28))] false [0,2,4,25] [2,4])
 (.cond 25 (.seq (.reg [] [.o 29 (.ld true 5 .tk (.k 4)),
 .s (.st 5 (.t 2) (.k 29)),
 .o 3 (.mv (.c (.i .i64 3)))] false [2,3] [2])
 .ret)
 (.seq (.reg [] [.o 31 (.mv (.t 0)),
 .o 32 (.len true (.k 31)),
 .o 33 (.bin .eql (.k 32) (.c (.i .i64 4))),
 .o 30 (.mv (.k 33))] false [0,2,4,30] [2,4])
 (.cond 30 (.seq (.reg [] [.o 34 (.ld true 5 .tk (.k 4)),
 .s (.st 5 (.t 2) (.k 34)),
 .o 3 (.mv (.c (.i .i64 1)))] false [2,3] [2])
 .ret)
 (.seq (.reg [] [.o 36 (.mv (.t 0)),
 .o 37 (.ixs (.k 36) (.c (.i .i64 4))),
 .o 38 (.bin .neq (.k 37) (.c (.i .u8 4))),
 .o 35 (.mv (.k 38))] false [0,2,4,35] [2,4])
 (.cond 35 (.seq (.reg [] [.o 39 (.ld true 5 .tk (.k 4)),
 .s (.st 5 (.t 2) (.k 39)),
 .o 3 (.mv (.c (.i .i64 8)))] false [2,3] [2])
 .ret)
 (.seq (.reg [] [.o 41 (.mv (.t 0)),
 .o 42 (.len true (.k 41)),
 .o 43 (.bin .lss (.k 42) (.c (.i .i64 10))),
 .o 44 (.mv (.k 43)),
 .c 44 false 45 (.mv (.t 0)),
 .c 44 false 46 (.ss (.k 45) (some (.c (.i .i64 6))) (some (.c (.i .i64 10)))),
 .c 44 false 47 (.call n_c_ref20_number [.k 46]),
 .c 44 false 48 (.mv (.t 0)),
 .c 44 false 49 (.len true (.k 48)),
 .c 44 false 50 (.bin .gtr (.k 47) (.k 49)),
 .o 51 (.pick (.k 44) (.c (.b true)) (.k 50)),
 .o 40 (.mv (.k 51))] false [0,2,4,40] [2,4])
 (.cond 40 (.seq (.reg [] [.o 52 (.ld true 5 .tk (.k 4)),
 .s (.st 5 (.t 2) (.k 52)),
 .o 3 (.mv (.c (.i .i64 1)))] false [2,3] [2])
 .ret)
 (.seq (.reg [] [.o 54 (.mv (.t 0)),
 .o 55 (.ss (.k 54) (some (.c (.i .i64 6))) (some (.c (.i .i64 10)))),
 .o 56 (.call n_c_ref20_number [.k 55]),
 .o 57 (.mv (.t 0)),
 .o 58 (.len true (.k 57)),
 .o 59 (.bin .lss (.k 56) (.k 58)),
 .o 53 (.mv (.k 59))] false [0,2,4,53] [2,4])
 (.cond 53 (.seq (.reg [] [.o 60 (.ld true 5 .tk (.k 4)),
 .s (.st 5 (.t 2) (.k 60)),
 .o 3 (.mv (.c (.i .i64 2)))] false [2,3] [2])
 .ret)
 .skip)))))))))))))
 (.seq (.reg [] [.o 61 (.mv (.t 0)),
 .o 62 (.mv (.t 0)),
 .o 63 (.len true (.k 62)),
 .o 64 (.bin .sub (.k 63) (.c (.i .i64 4))),
 .o 65 (.ss (.k 61) none (some (.k 64))),
 .o 5 (.mv (.k 65))] false [0,2,4,5] [2,4])
 (.seq (.seq (.reg [] [.o 66 (.mv (.t 0)),
 .o 67 (.mv (.t 0)),
 .o 68 (.len true (.k 67)),
 .o 69 (.bin .sub (.k 68) (.c (.i .i64 4))),
 .o 70 (.ss (.k 66) (some (.k 69)) none),
 .o 71 (.call n_c_ref20_number [.k 70]),
 .o 72 (.mv (.t 5)),
 .o 73 (.call n_c_ref02_Sum [.k 72]),
 .o 74 (.cv (.int .i64) (.k 73)),
 .o 75 (.bin .neq (.k 71) (.k 74))] false [0,2,4,5,75] [2,4])
 (.cond 75 (.seq (.reg [] [.o 76 (.ld true 5 .tk (.k 4)),
 .s (.st 5 (.t 2) (.k 76)),
 .o 3 (.mv (.c (.i .i64 7)))] false [2,3] [2])
 .ret)
 .skip))
 (.seq (.seq (.reg [] [.o 77 (.mv (.t 5)),
 .o 78 (.len true (.k 77)),
 .o 79 (.bin .lss (.k 78) (.c (.i .i64 11)))] false [0,2,4,5,79] [2,4])
 (.cond 79 (.seq (.reg [] [.o 80 (.ld true 5 .tk (.k 4)),
 .s (.st 5 (.t 2) (.k 80)),
 .o 3 (.mv (.c (.i .i64 1)))] false [2,3] [2])
 .ret)
 .skip))
 (.seq (.seq (.reg [] [.o 81 (.mv (.t 5)),
 .o 82 (.ixs (.k 81) (.c (.i .i64 10))),
 .o 83 (.bin .neq (.k 82) (.c (.i .u8 2)))] false [0,2,4,5,83] [2,4])
 (.cond 83 (.seq (.reg [] [.o 84 (.ld true 5 .tk (.k 4)),
 .s (.st 5 (.t 2) (.k 84)),
 .o 3 (.mv (.c (.i .i64 2)))] false [2,3] [2])
 .ret)
 .skip))
 (.seq (.reg [] [.o 6 (.mv (.c (.i .i64 37)))] false [0,2,4,5,6] [2,4])
 (.seq (.reg [] [.z 85 (.bs 1 0 (.s ⟨#[]⟩) []) 1,
 .o 7 (.mv (.k 85))] false [0,2,4,5,6,7] [2,4])
 (.seq (.seq (.reg [] [.o 8 (.mv (.c (.i .i64 0)))] false [0,2,4,5,6,7,8] [2,4])
 (.blk 1 (.loop (.seq (.seq (.reg [] [.o 86 (.mv (.t 8)),
 .o 87 (.bin .lss (.k 86) (.c (.i .i64 2)))] false [0,2,4,5,6,7,8,87] [2,4])
 (.cond 87 .skip
 (.exit 1)))
 (.seq (.blk 2 (.seq (.seq (.reg [] [.o 90 (.mv (.t 5)),
 .o 91 (.len true (.k 90)),
 .o 92 (.mv (.t 8)),
 .o 93 (.bin .mul (.c (.i .i64 13)) (.k 92)),
 .o 94 (.bin .add (.c (.i .i64 24)) (.k 93)),
 .o 95 (.bin .lss (.k 91) (.k 94))] false [0,2,4,5,6,7,8,95] [2,4])
 (.cond 95 (.seq (.reg [] [.o 96 (.ld true 5 .tk (.k 4)),
 .s (.st 5 (.t 2) (.k 96)),
 .o 3 (.mv (.c (.i .i64 1)))] false [2,3] [2])
 .ret)
 .skip))
 (.seq (.reg [] [.o 97 (.mv (.t 5)),
 .o 98 (.mv (.t 8)),
 .o 99 (.bin .mul (.c (.i .i64 13)) (.k 98)),
 .o 100 (.bin .add (.c (.i .i64 11)) (.k 99)),
 .o 101 (.mv (.t 8)),
 .o 102 (.bin .mul (.c (.i .i64 13)) (.k 101)),
 .o 103 (.bin .add (.c (.i .i64 24)) (.k 102)),
 .o 104 (.ss (.k 97) (some (.k 100)) (some (.k 103))),
 .o 9 (.mv (.k 104))] false [0,2,4,5,6,7,8,9] [2,4])
 (.seq (.seq (.reg [] [.o 105 (.mv (.t 9)),
 .o 106 (.ixs (.k 105) (.c (.i .i64 0))),
 .o 107 (.cv (.int .i64) (.k 106)),
 .o 108 (.mv (.t 8)),
 .o 109 (.bin .add (.k 108) (.c (.i .i64 1))),
 .o 110 (.bin .neq (.k 107) (.k 109)),
 .o 111 (.mv (.k 110)),
 .c 111 false 112 (.mv (.t 9)),
 .c 111 false 113 (.ss (.k 112) (some (.c (.i .i64 1))) (some (.c (.i .i64 5)))),
 .c 111 false 114 (.call n_c_ref20_number [.k 113]),
 .c 111 false 115 (.mv (.t 6)),
 .c 111 false 116 (.bin .neq (.k 114) (.k 115)),
 .o 117 (.pick (.k 111) (.c (.b true)) (.k 116))] false [0,2,4,5,6,7,8,9,117] [2,4])
 (.cond 117 (.seq (.reg [] [.o 118 (.ld true 5 .tk (.k 4)),
 .s (.st 5 (.t 2) (.k 118)),
 .o 3 (.mv (.c (.i .i64 2)))] false [2,3] [2])
 .ret)
 .skip))
 (.seq (.reg [] [.o 119 (.mv (.t 9)),
 .o 120 (.ss (.k 119) (some (.c (.i .i64 5))) (some (.c (.i .i64 9)))),
 .o 121 (.call n_c_ref20_number [.k 120]),
 .o 10 (.mv (.k 121))] false [0,2,4,5,6,7,8,9,10] [2,4])
 (.seq (.seq (.reg [] [.o 122 (.mv (.t 6)),
 .o 123 (.mv (.t 10)),
 .o 124 (.bin .add (.k 122) (.k 123)),
 .o 125 (.mv (.t 5)),
 .o 126 (.len true (.k 125)),
 .o 127 (.bin .gtr (.k 124) (.k 126))] false [0,2,4,5,6,7,8,9,10,127] [2,4])
 (.cond 127 (.seq (.reg [] [.o 128 (.ld true 5 .tk (.k 4)),
 .s (.st 5 (.t 2) (.k 128)),
 .o 3 (.mv (.c (.i .i64 1)))] false [2,3] [2])
 .ret)
 .skip))
 (.seq (.reg [] [.o 129 (.mv (.t 5)),
 .o 130 (.mv (.t 6)),
 .o 131 (.mv (.t 6)),
 .o 132 (.mv (.t 10)),
 .o 133 (.bin .add (.k 131) (.k 132)),
 .o 134 (.ss (.k 129) (some (.k 130)) (some (.k 133))),
 .o 11 (.mv (.k 134))] false [0,2,4,5,6,7,8,9,10,11] [2,4])
 (.seq (.seq (.reg [] [.o 135 (.mv (.t 11)),
 .o 136 (.call n_c_ref02_Sum [.k 135]),
 .o 137 (.cv (.int .i64) (.k 136)),
 .u 138 (.mv (.k 9)) [0,1,2] 0,
 .u 139 (.ss (.k 138) (some (.c (.i .i64 9))) (some (.c (.i .i64 13)))) [0,1,2] 0,
 .u 140 (.call n_c_ref20_number [.k 139]) [2] 0,
 .o 141 (.bin .neq (.k 137) (.k 140))] true [0,2,4,5,6,7,8,10,11,141] [2,4])
 (.cond 141 (.seq (.reg [] [.o 142 (.ld true 5 .tk (.k 4)),
 .s (.st 5 (.t 2) (.k 142)),
 .o 3 (.mv (.c (.i .i64 7)))] false [2,3] [2])
 .ret)
 .skip))
 (.seq (.reg [] [.o 143 (.mv (.k 7)),
 .o 144 (.mv (.k 11)),
 .o 145 (.bs 1 1 (.s ⟨#[]⟩) [(0,.k 144)]),
 .z 146 (.app 1 16 (.k 143) (.k 145)) 1,
 .o 7 (.mv (.k 146))] false [0,2,4,5,6,7,8,10] [2,4])
 (.reg [] [.o 147 (.mv (.k 6)),
 .o 148 (.mv (.k 10)),
 .o 149 (.bin .add (.k 147) (.k 148)),
 .o 6 (.mv (.k 149))] false [0,2,4,5,6,7,8] [2,4]))))))))))
 (.reg [] [.o 88 (.mv (.k 8)),
 .o 89 (.bin .add (.k 88) (.c (.i .i64 1))),
 .o 8 (.mv (.k 89))] false [0,2,4,5,6,7,8] [2,4]))))))
 (.seq (.seq (.reg [] [.o 150 (.mv (.k 6)),
 .o 151 (.mv (.k 5)),
 .o 152 (.len true (.k 151)),
 .o 153 (.bin .lss (.k 150) (.k 152))] false [0,2,4,7,153] [2,4])
 (.cond 153 (.seq (.reg [] [.o 154 (.ld true 5 .tk (.k 4)),
 .s (.st 5 (.t 2) (.k 154)),
 .o 3 (.mv (.c (.i .i64 2)))] false [2,3] [2])
 .ret)
 .skip))
 (.seq (.seq (.reg [] [.o 155 (.mv (.t 0)),
 .o 156 (.ixs (.k 155) (.c (.i .i64 5))),
 .o 157 (.bin .lss (.k 156) (.c (.i .u8 1))),
 .o 158 (.mv (.k 157)),
 .c 158 false 159 (.mv (.t 0)),
 .c 158 false 160 (.ixs (.k 159) (.c (.i .i64 5))),
 .c 158 false 161 (.bin .gtr (.k 160) (.c (.i .u8 4))),
 .o 162 (.pick (.k 158) (.c (.b true)) (.k 161))] false [0,2,4,7,162] [2,4])
 (.cond 162 (.seq (.reg [] [.o 163 (.ld true 5 .tk (.k 4)),
 .s (.st 5 (.t 2) (.k 163)),
 .o 3 (.mv (.c (.i .i64 6)))] false [2,3] [2])
 .ret)
 .skip))
 (.seq (.reg [] [.o 165 (.mv (.k 0)),
 .o 166 (.ixs (.k 165) (.c (.i .i64 5))),
 .o 167 (.cv (.int .i64) (.k 166)),
 .u 168 (.mv (.t 7)) [0,1,2] 0,
 .u 169 (.ia 1 none (.k 168) (.c (.i .i64 0))) [0,1,2] 0,
 .u 170 (.ld false 1 .cp (.k 169)) [0,1,2] 0,
 .u 171 (.mv (.t 7)) [0,1,2,3,4,5] 0,
 .u 172 (.ia 1 none (.k 171) (.c (.i .i64 1))) [0,1,2,3,4,5] 0,
 .u 173 (.ld false 1 .cp (.k 172)) [0,1,2,3,4,5] 0,
 .o 174 (.call n_c_ref19_Read [.k 167,.k 170,.k 173]),
 .o 164 (.mv (.k 174)),
 .o 175 (.ex false 0 164),
 .u 176 (.ex false 1 164) [11] 0,
 .u 12 (.al ([.i .i64 0,.i .i64 0,.i .u64 0,.l .o 1 [],.l .o 1 []])) [0,1,2,3,4,5,6,7,8,9,10,11,12] 0,
 ⟨none,none,.st 5 (.t 12) (.k 175),[12],0⟩,
 .o 13 (.mv (.k 176))] true [2,4,12,13] [2,4,12])
 (.seq (.seq (.reg [] [.o 177 (.mv (.t 13)),
 .o 178 (.bin .eql (.k 177) (.c (.i .i64 0)))] false [2,4,12,13,178] [2,4,12])
 (.cond 178 (.reg [] [.z 179 (.ld true 5 .cp (.t 12)) 2,
 .o 180 (.call n_c_ref17_Check [.k 179]),
 .o 13 (.mv (.k 180))] false [2,4,12,13] [2,4,12])
 .skip))
 (.seq (.seq (.reg [] [.o 181 (.mv (.t 13)),
 .o 182 (.bin .neq (.k 181) (.c (.i .i64 0)))] false [2,4,12,13,182] [2,4,12])
 (.cond 182 (.seq (.reg [] [.o 183 (.ld true 5 .tk (.k 4)),
 .o 184 (.mv (.k 13)),
 .s (.st 5 (.t 2) (.k 183)),
 .o 3 (.mv (.k 184))] false [2,3] [2])
 .ret)
 .skip))
 (.seq (.reg [] [.o 185 (.ld true 5 .tk (.k 12)),
 .s (.st 5 (.t 2) (.k 185)),
 .o 3 (.mv (.c (.i .i64 0)))] false [2,3] [2])
 .ret))))))))))))))))⟩

def F_c_ref21_parse : F := ⟨2,[.inr (4,true,5),.inl 5],
 (.seq (.reg [] [.o 4 (.al ([.i .i64 0,.i .i64 0,.i .u64 0,.l .o 1 [],.l .o 1 []])),
 .o 5 (.mv (.c (.i .i64 0)))] false [0,1,4] [4])
 (.seq (.reg [] [.o 13 (.mv (.k 1)),
 .o 14 (.bd ([.s ⟨#[]⟩,.i .i64 0]) [(0,1,.k 13)]),
 .o 15 (.call n_c_ref01_Whole [.k 14,.c (.i .i64 1)]),
 .o 12 (.mv (.k 15)),
 .o 16 (.ex false 0 12),
 .o 17 (.ex false 1 12),
 .o 6 (.al ([.s ⟨#[]⟩,.i .i64 0])),
 .s (.st 2 (.t 6) (.k 16)),
 .o 7 (.mv (.k 17))] false [0,4,6,7] [4,6])
 (.seq (.seq (.reg [] [.o 18 (.fa 1 (.t 6)),
 .o 19 (.ld false 1 .cp (.k 18)),
 .o 20 (.bin .neq (.k 19) (.c (.i .i64 0)))] false [0,4,6,7,20] [4,6])
 (.cond 20 (.seq (.reg [] [.o 21 (.bd ([.i .i64 0,.i .i64 0,.i .u64 0,.l .o 1 [],.l .o 1 []]) []),
 .u 22 (.fa 1 (.k 6)) [0] 0,
 .u 23 (.ld false 1 .cp (.k 22)) [0] 0,
 ⟨none,none,.st 5 (.t 4) (.k 21),[1,2],0⟩,
 .o 5 (.mv (.k 23))] true [4,5] [4])
 .ret)
 .skip))
 (.seq (.seq (.reg [] [.o 24 (.mv (.t 7)),
 .o 25 (.bin .lss (.k 24) (.c (.i .u64 1))),
 .o 26 (.mv (.k 25)),
 .c 26 false 27 (.mv (.t 7)),
 .c 26 false 28 (.bin .gtr (.k 27) (.c (.i .u64 4))),
 .o 29 (.pick (.k 26) (.c (.b true)) (.k 28))] false [0,4,6,7,29] [4,6])
 (.cond 29 (.seq (.reg [] [.o 30 (.bd ([.i .i64 0,.i .i64 0,.i .u64 0,.l .o 1 [],.l .o 1 []]) []),
 .s (.st 5 (.t 4) (.k 30)),
 .o 5 (.mv (.c (.i .i64 6)))] false [4,5] [4])
 .ret)
 .skip))
 (.seq (.seq (.reg [] [.o 31 (.mv (.t 0)),
 .o 32 (.bin .eql (.k 31) (.c (.i .i64 3)))] false [0,4,6,7,32] [4,6])
 (.cond 32 (.seq (.reg [] [.o 33 (.mv (.k 7)),
 .o 34 (.cv (.int .i64) (.k 33)),
 .o 35 (.ld true 2 .cp (.k 6)),
 .o 36 (.call n_c_ref21_third [.k 34,.k 35]),
 .o 37 (.ex false 0 36),
 .o 38 (.ex false 1 36),
 .s (.st 5 (.t 4) (.k 37)),
 .o 5 (.mv (.k 38))] false [4,5] [4])
 .ret)
 .skip))
 (.seq (.reg [] [.o 40 (.ld true 2 .cp (.k 6)),
 .o 41 (.call n_c_ref01_Number [.k 40,.c (.i .u64 255)]),
 .o 39 (.mv (.k 41)),
 .o 42 (.ex false 0 39),
 .o 43 (.ex false 1 39),
 .o 8 (.al ([.s ⟨#[]⟩,.i .i64 0])),
 .s (.st 2 (.t 8) (.k 42)),
 .o 9 (.mv (.k 43))] false [0,4,7,8,9] [4,8])
 (.seq (.seq (.reg [] [.o 44 (.fa 1 (.t 8)),
 .o 45 (.ld false 1 .cp (.k 44)),
 .o 46 (.bin .neq (.k 45) (.c (.i .i64 0)))] false [0,4,7,8,9,46] [4,8])
 (.cond 46 (.seq (.reg [] [.o 47 (.bd ([.i .i64 0,.i .i64 0,.i .u64 0,.l .o 1 [],.l .o 1 []]) []),
 .u 48 (.fa 1 (.k 8)) [0] 0,
 .u 49 (.ld false 1 .cp (.k 48)) [0] 0,
 ⟨none,none,.st 5 (.t 4) (.k 47),[1,2],0⟩,
 .o 5 (.mv (.k 49))] true [4,5] [4])
 .ret)
 .skip))
 (.seq (.seq (.reg [] [.o 50 (.mv (.t 7)),
 .o 51 (.cv (.int .i64) (.k 50)),
 .o 52 (.mv (.t 9)),
 .o 53 (.cv (.int .i64) (.k 52)),
 .o 54 (.call n_c_ref06_Legal [.k 51,.k 53]),
 .o 10 (.mv (.k 54))] false [0,4,7,8,9,10] [4,8])
 (.seq (.reg [] [.o 55 (.mv (.t 10)),
 .o 56 (.bin .neq (.k 55) (.c (.i .i64 0)))] false [0,4,7,8,9,10,56] [4,8])
 (.cond 56 (.seq (.reg [] [.o 57 (.bd ([.i .i64 0,.i .i64 0,.i .u64 0,.l .o 1 [],.l .o 1 []]) []),
 .o 58 (.mv (.k 10)),
 .s (.st 5 (.t 4) (.k 57)),
 .o 5 (.mv (.k 58))] false [4,5] [4])
 .ret)
 .skip)))
 (.seq (.reg [] [.o 59 (.mv (.k 7)),
 .o 60 (.cv (.int .i64) (.k 59)),
 .o 61 (.mv (.k 9)),
 .o 62 (.cv (.int .i64) (.k 61)),
 .o 63 (.bd ([.i .i64 0,.i .i64 0,.i .u64 0,.l .o 1 [],.l .o 1 []]) [(0,1,.k 60),(1,1,.k 62)]),
 .o 11 (.al ([.i .i64 0,.i .i64 0,.i .u64 0,.l .o 1 [],.l .o 1 []])),
 .s (.st 5 (.t 11) (.k 63))] false [0,4,8,11] [4,8,11])
 (.seq (.seq (.reg [] [.o 64 (.mv (.k 0)),
 .o 65 (.bin .eql (.k 64) (.c (.i .i64 1)))] false [4,8,11,65] [4,8,11])
 (.cond 65 (.seq (.reg [] [.o 66 (.ld true 5 .tk (.k 11)),
 .o 67 (.ld true 2 .cp (.k 8)),
 .o 68 (.call n_c_ref21_first [.k 66,.k 67]),
 .o 69 (.ex false 0 68),
 .o 70 (.ex false 1 68),
 .s (.st 5 (.t 4) (.k 69)),
 .o 5 (.mv (.k 70))] false [4,5] [4])
 .ret)
 .skip))
 (.seq (.reg [] [.o 71 (.ld true 5 .tk (.k 11)),
 .o 72 (.ld true 2 .cp (.k 8)),
 .o 73 (.call n_c_ref21_second [.k 71,.k 72]),
 .o 74 (.ex false 0 73),
 .o 75 (.ex false 1 73),
 .s (.st 5 (.t 4) (.k 74)),
 .o 5 (.mv (.k 75))] false [4,5] [4])
 .ret)))))))))))⟩

def F_c_ref17_Check : F := ⟨1,[.inl 2],
 (.seq (.reg [.zz 0] [.o 1 (.bx (.k 0)),
 .o 2 (.mv (.c (.i .i64 0)))] false [1] [1])
 (.seq (.seq (.reg [] [.o 13 (.fa 0 (.t 1)),
 .o 14 (.ld false 1 .cp (.k 13)),
 .o 15 (.fa 1 (.t 1)),
 .o 16 (.ld false 1 .cp (.k 15)),
 .o 17 (.call n_c_ref06_Legal [.k 14,.k 16]),
 .o 3 (.mv (.k 17))] false [1,3] [1])
 (.seq (.reg [] [.o 18 (.mv (.t 3)),
 .o 19 (.bin .neq (.k 18) (.c (.i .i64 0)))] false [1,3,19] [1])
 (.cond 19 (.seq (.reg [] [.o 20 (.mv (.k 3)),
 .o 2 (.mv (.k 20))] false [2] [])
 .ret)
 .skip)))
 (.seq (.reg [] [.o 21 (.fa 1 (.t 1)),
 .o 22 (.ld false 1 .cp (.k 21)),
 .z 23 (.bs 1 5 (.i .i64 0) [(0,.c (.i .i64 0)),(1,.k 22),(2,.c (.i .i64 1)),(3,.c (.i .i64 0)),(4,.c (.i .i64 0))]) 1,
 .o 24 (.fa 0 (.t 1)),
 .o 25 (.ld false 1 .cp (.k 24)),
 .o 26 (.ia 1 none (.k 23) (.k 25)),
 .o 27 (.ld false 1 .cp (.k 26)),
 .o 4 (.mv (.k 27))] false [1,4] [1])
 (.seq (.reg [] [.o 28 (.fa 1 (.t 1)),
 .o 29 (.ld false 1 .cp (.k 28)),
 .z 30 (.bs 1 5 (.i .i64 0) [(0,.c (.i .i64 0)),(1,.c (.i .i64 0)),(2,.c (.i .i64 0)),(3,.k 29),(4,.c (.i .i64 1))]) 1,
 .o 31 (.fa 0 (.t 1)),
 .o 32 (.ld false 1 .cp (.k 31)),
 .o 33 (.ia 1 none (.k 30) (.k 32)),
 .o 34 (.ld false 1 .cp (.k 33)),
 .o 5 (.mv (.k 34))] false [1,4,5] [1])
 (.seq (.seq (.reg [] [.o 35 (.fa 3 (.t 1)),
 .o 36 (.ld false 1 .cp (.k 35)),
 .o 37 (.len false (.k 36)),
 .o 38 (.mv (.k 4)),
 .o 39 (.bin .neq (.k 37) (.k 38)),
 .o 40 (.mv (.k 39)),
 .c 40 false 41 (.fa 4 (.t 1)),
 .c 40 false 42 (.ld false 1 .cp (.k 41)),
 .c 40 false 43 (.len false (.k 42)),
 .c 40 false 44 (.mv (.k 5)),
 .c 40 false 45 (.bin .neq (.k 43) (.k 44)),
 .o 46 (.pick (.k 40) (.c (.b true)) (.k 45))] false [1,46] [1])
 (.cond 46 (.seq (.reg [] [.o 2 (.mv (.c (.i .i64 2)))] false [2] [])
 .ret)
 .skip))
 (.seq (.reg [] [.o 6 (.mv (.c (.i .i64 0)))] false [1,6] [1])
 (.seq (.seq (.reg [] [.o 47 (.fa 3 (.t 1)),
 .o 48 (.ld false 1 .cp (.k 47)),
 .o 49 (.len false (.t 48)),
 .o 50 (.mv (.c (.i .i64 0)))] false [1,6,48,49,50] [1])
 (.blk 0 (.loop (.seq (.reg [] [.o 51 (.bin .lss (.t 50) (.t 49))] false [1,6,48,49,50,51] [1])
 (.seq (.cond 51 .skip
 (.exit 0))
 (.seq (.blk 1 (.seq (.reg [] [.o 52 (.ia 1 none (.t 48) (.t 50)),
 .o 53 (.ld false 1 .cp (.k 52)),
 .o 8 (.mv (.k 53))] false [1,6,8,48,49,50] [1])
 (.seq (.reg [] [.o 54 (.mv (.k 6)),
 .o 55 (.mv (.t 8)),
 .o 56 (.len false (.k 55)),
 .o 57 (.bin .add (.k 54) (.k 56)),
 .o 6 (.mv (.k 57))] false [1,6,8,48,49,50] [1])
 (.seq (.seq (.reg [] [.o 58 (.fa 0 (.t 1)),
 .o 59 (.ld false 1 .cp (.k 58)),
 .o 60 (.bin .eql (.k 59) (.c (.i .i64 2)))] false [1,6,8,48,49,50,60] [1])
 (.cond 60 (.exit 1)
 .skip))
 (.seq (.seq (.reg [] [.o 61 (.mv (.t 8)),
 .o 62 (.len false (.k 61)),
 .o 63 (.bin .gtr (.k 62) (.c (.i .i64 62)))] false [1,6,8,48,49,50,63] [1])
 (.cond 63 (.seq (.reg [] [.o 2 (.mv (.c (.i .i64 3)))] false [2] [])
 .ret)
 .skip))
 (.seq (.reg [] [.o 9 (.mv (.c (.i .i64 1)))] false [1,6,8,9,48,49,50] [1])
 (.blk 2 (.loop (.seq (.seq (.reg [] [.o 64 (.mv (.t 9)),
 .o 65 (.mv (.t 8)),
 .o 66 (.len false (.k 65)),
 .o 67 (.bin .lss (.k 64) (.k 66))] false [1,6,8,9,48,49,50,67] [1])
 (.cond 67 .skip
 (.exit 2)))
 (.seq (.blk 3 (.seq (.reg [] [.o 70 (.mv (.t 8)),
 .u 71 (.mv (.t 9)) [0] 0,
 .u 72 (.bin .sub (.k 71) (.c (.i .i64 1))) [0] 0,
 .o 73 (.ia 2 none (.k 70) (.k 72)),
 .o 74 (.ld true 2 .cp (.k 73)),
 .u 75 (.mv (.t 8)) [0,1,2,3,4] 0,
 .u 76 (.mv (.t 9)) [0,1,2,3,4,5] 0,
 .u 77 (.ia 2 none (.k 75) (.k 76)) [0,1,2,3,4] 0,
 .u 78 (.ld true 2 .cp (.k 77)) [0,1,2,3,4] 0,
 .o 79 (.call n_c_ref04_Cmp [.k 74,.k 78]),
 .o 80 (.bin .gtr (.k 79) (.c (.i .i64 0)))] true [1,6,8,9,48,49,50,80] [1])
 (.cond 80 (.seq (.reg [] [.o 2 (.mv (.c (.i .i64 14)))] false [2] [])
 .ret)
 .skip)))
 (.reg [] [.o 68 (.mv (.k 9)),
 .o 69 (.bin .add (.k 68) (.c (.i .i64 1))),
 .o 9 (.mv (.k 69))] false [1,6,8,9,48,49,50] [1])))))))))))
 (.reg [] [.o 81 (.bin .add (.k 50) (.c (.i .i64 1))),
 .o 50 (.mv (.k 81))] false [1,6,48,49,50] [1])))))))
 (.seq (.seq (.reg [] [.o 82 (.mv (.k 6)),
 .o 83 (.bin .gtr (.k 82) (.c (.i .i64 1000)))] false [1,83] [1])
 (.cond 83 (.seq (.reg [] [.o 2 (.mv (.c (.i .i64 3)))] false [2] [])
 .ret)
 .skip))
 (.seq (.reg [] [.o 10 (.mv (.c (.i .i64 0)))] false [1,10] [1])
 (.seq (.seq (.reg [] [.o 84 (.fa 4 (.k 1)),
 .o 85 (.ld false 1 .tk (.k 84)),
 .o 86 (.len false (.t 85)),
 .o 87 (.mv (.c (.i .i64 0)))] false [10,85,86,87] [])
 (.blk 4 (.loop (.seq (.reg [] [.o 88 (.bin .lss (.t 87) (.t 86))] false [10,85,86,87,88] [])
 (.seq (.cond 88 .skip
 (.exit 4))
 (.seq (.blk 5 (.seq (.reg [] [.o 89 (.ia 1 none (.t 85) (.t 87)),
 .o 90 (.ld false 1 .cp (.k 89)),
 .o 12 (.mv (.k 90))] false [10,12,85,86,87] [])
 (.seq (.seq (.reg [] [.o 91 (.mv (.t 12)),
 .o 92 (.bin .lss (.k 91) (.c (.i .i64 0))),
 .o 93 (.mv (.k 92)),
 .c 93 false 94 (.mv (.t 12)),
 .c 93 false 95 (.bin .gtr (.k 94) (.c (.i .i64 1125899906842624))),
 .o 96 (.pick (.k 93) (.c (.b true)) (.k 95))] false [10,12,85,86,87,96] [])
 (.cond 96 (.seq (.reg [] [.o 2 (.mv (.c (.i .i64 4)))] false [2] [])
 .ret)
 .skip))
 (.reg [] [.o 97 (.mv (.k 10)),
 .o 98 (.mv (.k 12)),
 .o 99 (.bin .add (.k 97) (.k 98)),
 .o 10 (.mv (.k 99))] false [10,85,86,87] []))))
 (.reg [] [.o 100 (.bin .add (.k 87) (.c (.i .i64 1))),
 .o 87 (.mv (.k 100))] false [10,85,86,87] [])))))))
 (.seq (.seq (.reg [] [.o 101 (.mv (.k 10)),
 .o 102 (.bin .gtr (.k 101) (.c (.i .i64 1125899906842624)))] false [102] [])
 (.cond 102 (.seq (.reg [] [.o 2 (.mv (.c (.i .i64 4)))] false [2] [])
 .ret)
 .skip))
 (.seq (.reg [] [.o 2 (.mv (.c (.i .i64 0)))] false [2] [])
 .ret))))))))))))⟩

def F_crc_Table_Open : F := ⟨2,[.inl 4,.inl 5],
 (.seq (.reg [] [.o 4 (.mv (.c (.s ⟨#[]⟩))),
 .o 5 (.mv (.c (.i .i64 0)))] false [0,1] [])
 (.seq (.reg [] [.o 7 (.mv (.t 1)),
 .o 8 (.len true (.k 7)),
 .o 9 (.bin .sub (.k 8) (.c (.i .i64 4))),
 .o 6 (.mv (.k 9))] false [0,1,6] [])
 (.seq (.seq (.reg [] [.o 10 (.mv (.t 6)),
 .o 11 (.bin .lss (.k 10) (.c (.i .i64 0)))] false [0,1,6,11] [])
 (.cond 11 (.seq (.reg [] [.o 4 (.mv (.c (.s ⟨#[]⟩))),
 .o 5 (.mv (.c (.i .i64 1)))] false [4,5] [])
 .ret)
 .skip))
 (.seq (.seq (.reg [] [.o 12 (.mv (.t 1)),
 .u 13 (.mv (.t 6)) [0] 0,
 .o 14 (.ss (.k 12) (some (.k 13)) none),
 .o 15 (.call n_octet_Of [.k 14]),
 .o 16 (.call n_octet_In_Word [.k 15]),
 .u 17 (.mv (.k 0)) [0,1,2,3,4] 0,
 .u 18 (.mv (.t 1)) [0,1,2,3,4,5] 0,
 .u 19 (.mv (.t 6)) [0,1,2,3,4,5,6] 0,
 .u 20 (.ss (.k 18) none (some (.k 19))) [0,1,2,3,4,5] 0,
 .u 21 (.bs 1 1 (.s ⟨#[]⟩) [(0,.k 20)]) [0,1,2,3,4,5] 2,
 .o 22 (.call n_crc_Table_Sum [.k 17,.k 21]),
 .o 23 (.bin .neq (.k 16) (.k 22))] true [1,6,23] [])
 (.cond 23 (.seq (.reg [] [.o 4 (.mv (.c (.s ⟨#[]⟩))),
 .o 5 (.mv (.c (.i .i64 7)))] false [4,5] [])
 .ret)
 .skip))
 (.seq (.reg [] [.o 24 (.mv (.k 1)),
 .o 25 (.mv (.k 6)),
 .o 26 (.ss (.k 24) none (some (.k 25))),
 .o 4 (.mv (.k 26)),
 .o 5 (.mv (.c (.i .i64 0)))] false [4,5] [])
 .ret)))))⟩

def F_elder_parse : F := ⟨2,[.inr (4,true,5),.inl 5],
 (.seq (.reg [] [.o 4 (.al ([.i .i64 0,.i .i64 0,.i .u64 0,.l .o 1 [],.l .o 1 []])),
 .o 5 (.mv (.c (.i .i64 0)))] false [0,1,4] [4])
 (.seq (.reg [] [.o 10 (.mv (.k 1)),
 .o 11 (.call n_octet_Of [.k 10]),
 .o 6 (.mv (.k 11))] false [0,4,6] [4])
 (.seq (.reg [] [.o 12 (.mv (.t 6)),
 .o 13 (.call n_octet_In_Byte [.k 12]),
 .o 14 (.cv (.int .i64) (.k 13)),
 .o 7 (.mv (.k 14))] false [0,4,6,7] [4])
 (.seq (.blk 0 (.seq (.reg [] [.o 16 (.mv (.t 6)),
 .o 17 (.call n_octet_In_Err [.k 16]),
 .o 18 (.bin .neq (.k 17) (.c (.i .i64 0))),
 .o 15 (.mv (.k 18))] false [0,4,6,7,15] [4])
 (.cond 15 (.seq (.reg [] [.o 19 (.bd ([.i .i64 0,.i .i64 0,.i .u64 0,.l .o 1 [],.l .o 1 []]) []),
 .o 20 (.mv (.k 6)),
 .o 21 (.call n_octet_In_Err [.k 20]),
 .s (.st 5 (.t 4) (.k 19)),
 .o 5 (.mv (.k 21))] false [4,5] [4])
 .ret)
 (.seq (.reg [] [.o 23 (.mv (.t 7)),
 .o 24 (.call n_op_Of [.k 23]),
 .o 25 (.len false (.k 24)),
 .o 26 (.bin .eql (.k 25) (.c (.i .i64 0))),
 .o 22 (.mv (.k 26))] false [0,4,6,7,22] [4])
 (.cond 22 (.seq (.reg [] [.o 27 (.bd ([.i .i64 0,.i .i64 0,.i .u64 0,.l .o 1 [],.l .o 1 []]) []),
 .s (.st 5 (.t 4) (.k 27)),
 .o 5 (.mv (.c (.i .i64 6)))] false [4,5] [4])
 .ret)
 (.seq (.reg [] [.o 29 (.mv (.t 0)),
 .o 30 (.bin .eql (.k 29) (.c (.i .i64 3))),
 .o 28 (.mv (.k 30))] false [0,4,6,7,28] [4])
 (.cond 28 (.seq (.reg [] [.o 31 (.mv (.k 7)),
 .o 32 (.mv (.k 6)),
 .o 33 (.call n_elder_third [.k 31,.k 32]),
 .o 34 (.ex false 0 33),
 .o 35 (.ex false 1 33),
 .s (.st 5 (.t 4) (.k 34)),
 .o 5 (.mv (.k 35))] false [4,5] [4])
 .ret)
 .skip)))))))
 (.seq (.reg [] [.o 36 (.mv (.t 7)),
 .o 37 (.mv (.t 6)),
 .o 38 (.call n_octet_In_Num [.k 37,.c (.i .u64 255)]),
 .o 39 (.cv (.int .i64) (.k 38)),
 .o 40 (.bd ([.i .i64 0,.i .i64 0,.i .u64 0,.l .o 1 [],.l .o 1 []]) [(0,1,.k 36),(1,1,.k 39)]),
 .o 8 (.al ([.i .i64 0,.i .i64 0,.i .u64 0,.l .o 1 [],.l .o 1 []])),
 .s (.st 5 (.t 8) (.k 40))] false [0,4,6,7,8] [4,8])
 (.seq (.seq (.reg [] [.o 41 (.mv (.t 6)),
 .o 42 (.call n_octet_In_Err [.k 41]),
 .o 43 (.bin .neq (.k 42) (.c (.i .i64 0)))] false [0,4,6,7,8,43] [4,8])
 (.cond 43 (.seq (.reg [] [.o 44 (.ld true 5 .cp (.k 8)),
 .u 45 (.mv (.k 6)) [0] 0,
 .u 46 (.call n_octet_In_Err [.k 45]) [0] 0,
 .s (.st 5 (.t 4) (.k 44)),
 .o 5 (.mv (.k 46))] true [4,5] [4])
 .ret)
 .skip))
 (.seq (.seq (.reg [] [.o 47 (.mv (.k 7)),
 .o 48 (.fa 1 (.t 8)),
 .o 49 (.ld false 1 .cp (.k 48)),
 .o 50 (.call n_op_Legal [.k 47,.k 49]),
 .o 9 (.mv (.k 50))] false [0,4,6,8,9] [4,8])
 (.seq (.reg [] [.o 51 (.mv (.t 9)),
 .o 52 (.bin .neq (.k 51) (.c (.i .i64 0)))] false [0,4,6,8,9,52] [4,8])
 (.cond 52 (.seq (.reg [] [.o 53 (.ld true 5 .tk (.k 8)),
 .o 54 (.mv (.k 9)),
 .s (.st 5 (.t 4) (.k 53)),
 .o 5 (.mv (.k 54))] false [4,5] [4])
 .ret)
 .skip)))
 (.seq (.seq (.reg [] [.o 55 (.mv (.k 0)),
 .o 56 (.bin .eql (.k 55) (.c (.i .i64 1)))] false [4,6,8,56] [4,8])
 (.cond 56 (.seq (.reg [] [.z 57 (.ld true 5 .tk (.k 8)) 2,
 .o 58 (.mv (.k 6)),
 .o 59 (.call n_elder_first [.k 57,.k 58]),
 .o 60 (.ex false 0 59),
 .o 61 (.ex false 1 59),
 .s (.st 5 (.t 4) (.k 60)),
 .o 5 (.mv (.k 61))] false [4,5] [4])
 .ret)
 .skip))
 (.seq (.reg [] [.o 62 (.ld true 5 .tk (.k 8)),
 .o 63 (.mv (.k 6)),
 .o 64 (.call n_elder_second [.k 62,.k 63]),
 .o 65 (.ex false 0 64),
 .o 66 (.ex false 1 64),
 .s (.st 5 (.t 4) (.k 65)),
 .o 5 (.mv (.k 66))] false [4,5] [4])
 .ret)))))))))⟩

def F_op_Legal : F := ⟨2,[.inl 4],
 (.seq (.reg [] [.o 4 (.mv (.c (.i .i64 0)))] false [0,1] [])
 (.seq (.blk 0 (.seq (.reg [] [.o 6 (.mv (.t 0)),
 .o 7 (.bin .lss (.k 6) (.c (.i .i64 1))),
 .o 8 (.mv (.k 7)),
 .c 8 false 9 (.mv (.t 0)),
 .c 8 false 10 (.bin .gtr (.k 9) (.c (.i .i64 4))),
 .o 11 (.pick (.k 8) (.c (.b true)) (.k 10)),
 .o 5 (.mv (.k 11))] false [0,1,5] [])
 (.cond 5 (.seq (.reg [] [.o 4 (.mv (.c (.i .i64 6)))] false [4] [])
 .ret)
 (.seq (.reg [] [.o 13 (.mv (.t 1)),
 .o 14 (.bin .lss (.k 13) (.c (.i .i64 1))),
 .o 15 (.mv (.k 14)),
 .c 15 false 16 (.mv (.t 1)),
 .c 15 false 17 (.bin .gtr (.k 16) (.c (.i .i64 16))),
 .o 18 (.pick (.k 15) (.c (.b true)) (.k 17)),
 .o 19 (.mv (.k 18)),
 .c 19 false 20 (.mv (.k 0)),
 .c 19 false 21 (.bin .eql (.k 20) (.c (.i .i64 4))),
 .c 19 false 22 (.mv (.k 21)),
 .c 22 true 23 (.mv (.t 1)),
 .c 22 true 24 (.mv (.k 1)),
 .c 22 true 25 (.bin .sub (.k 24) (.c (.i .i64 1))),
 .c 22 true 26 (.bin .and (.k 23) (.k 25)),
 .c 22 true 27 (.bin .neq (.k 26) (.c (.i .i64 0))),
 .c 19 false 28 (.pick (.k 22) (.k 27) (.c (.b false))),
 .o 29 (.pick (.k 19) (.c (.b true)) (.k 28)),
 .o 12 (.mv (.k 29))] false [12] [])
 (.cond 12 (.seq (.reg [] [.o 4 (.mv (.c (.i .i64 5)))] false [4] [])
 .ret)
 .skip)))))
 (.seq (.reg [] [.o 4 (.mv (.c (.i .i64 0)))] false [4] [])
 .ret)))⟩

def F_image_Shape : F := ⟨2,[.inl 4,.inl 5],
 (.seq (.reg [] [.o 4 (.mv (.c (.i .i64 0))),
 .o 5 (.mv (.c (.i .i64 0)))] false [0,1] [])
 (.seq (.seq (.reg [] [.o 6 (.mv (.k 0))] false [1,6] [])
 (.blk 0 (.seq (.reg [] [.o 8 (.bin .eql (.t 6) (.c (.i .i64 1))),
 .o 7 (.mv (.k 8))] false [1,6,7] [])
 (.cond 7 (.seq (.reg [] [.o 9 (.mv (.k 1)),
 .o 4 (.mv (.k 9)),
 .o 5 (.mv (.c (.i .i64 0)))] false [4,5] [])
 .ret)
 (.seq (.reg [] [.o 11 (.bin .eql (.t 6) (.c (.i .i64 2))),
 .o 10 (.mv (.k 11))] false [1,6,10] [])
 (.cond 10 (.seq (.reg [] [.o 4 (.mv (.c (.i .i64 1))),
 .o 5 (.mv (.c (.i .i64 0)))] false [4,5] [])
 .ret)
 (.seq (.reg [] [.o 13 (.bin .eql (.t 6) (.c (.i .i64 3))),
 .o 12 (.mv (.k 13))] false [1,6,12] [])
 (.cond 12 (.seq (.reg [] [.o 14 (.mv (.k 1)),
 .o 4 (.mv (.c (.i .i64 0))),
 .o 5 (.mv (.k 14))] false [4,5] [])
 .ret)
 (.seq (.reg [] [.o 16 (.bin .eql (.k 6) (.c (.i .i64 4))),
 .o 15 (.mv (.k 16))] false [15] [])
 (.cond 15 (.seq (.reg [] [.o 4 (.mv (.c (.i .i64 0))),
 .o 5 (.mv (.c (.i .i64 1)))] false [4,5] [])
 .ret)
 .skip))))))))))
 (.seq (.reg [] [.o 4 (.mv (.c (.i .i64 0))),
 .o 5 (.mv (.c (.i .i64 0)))] false [4,5] [])
 .ret)))⟩

def F_image_order : F := ⟨2,[.inl 4],
 (.seq (.reg [.zz 1] [.o 4 (.mv (.c (.i .i64 0)))] false [0,1] [])
 (.seq (.seq (.reg [] [.o 6 (.mv (.t 0)),
 .o 7 (.bin .eql (.k 6) (.c (.i .i64 1))),
 .o 8 (.mv (.k 7)),
 .c 8 true 9 (.mv (.t 1)),
 .c 8 true 10 (.len false (.k 9)),
 .c 8 true 11 (.bin .gtr (.k 10) (.c (.i .i64 62))),
 .o 12 (.pick (.k 8) (.k 11) (.c (.b false)))] false [0,1,12] [])
 (.cond 12 (.seq (.reg [] [.o 4 (.mv (.c (.i .i64 3)))] false [4] [])
 .ret)
 .skip))
 (.seq (.seq (.reg [] [.o 5 (.mv (.c (.i .i64 1)))] false [0,1,5] [])
 (.blk 0 (.loop (.seq (.seq (.reg [] [.o 13 (.mv (.t 0)),
 .o 14 (.bin .eql (.k 13) (.c (.i .i64 1))),
 .o 15 (.mv (.k 14)),
 .c 15 true 16 (.mv (.t 5)),
 .c 15 true 17 (.mv (.t 1)),
 .c 15 true 18 (.len false (.k 17)),
 .c 15 true 19 (.bin .lss (.k 16) (.k 18)),
 .o 20 (.pick (.k 15) (.k 19) (.c (.b false)))] false [0,1,5,20] [])
 (.cond 20 .skip
 (.exit 0)))
 (.seq (.blk 1 (.seq (.reg [] [.o 23 (.mv (.t 1)),
 .u 24 (.mv (.t 5)) [0] 0,
 .o 25 (.ia 2 none (.k 23) (.k 24)),
 .o 26 (.ld true 2 .cp (.k 25)),
 .u 27 (.mv (.t 1)) [0,1,2,3] 0,
 .u 28 (.mv (.t 5)) [0,1,2,3,4] 0,
 .u 29 (.bin .sub (.k 28) (.c (.i .i64 1))) [0,1,2,3,4] 0,
 .u 30 (.ia 2 none (.k 27) (.k 29)) [0,1,2,3] 0,
 .u 31 (.ld true 2 .cp (.k 30)) [0,1,2,3] 0,
 .o 32 (.call n_pile_Item_Cmp [.k 26,.k 31]),
 .o 33 (.bin .lss (.k 32) (.c (.i .i64 0)))] true [0,1,5,33] [])
 (.cond 33 (.seq (.reg [] [.o 4 (.mv (.c (.i .i64 14)))] false [4] [])
 .ret)
 .skip)))
 (.reg [] [.o 21 (.mv (.k 5)),
 .o 22 (.bin .add (.k 21) (.c (.i .i64 1))),
 .o 5 (.mv (.k 22))] false [0,1,5] []))))))
 (.seq (.reg [] [.o 4 (.mv (.c (.i .i64 0)))] false [4] [])
 .ret))))⟩

def F_octet_Num : F := ⟨2,[.inl 4],
 (.seq (.reg [] [.o 4 (.mv (.c (.l .o 1 [])))] false [0,1] [])
 (.seq (.blk 0 (.loop (.seq (.seq (.reg [] [.o 5 (.mv (.t 1)),
 .o 6 (.bin .geq (.k 5) (.c (.i .u64 128)))] false [0,1,6] [])
 (.cond 6 .skip
 (.exit 0)))
 (.blk 1 (.seq (.reg [] [.o 7 (.mv (.k 0)),
 .o 8 (.mv (.t 1)),
 .o 9 (.cv (.int .u8) (.k 8)),
 .o 10 (.bin .or (.k 9) (.c (.i .u8 128))),
 .o 11 (.bs 1 1 (.i .u8 0) [(0,.k 10)]),
 .z 12 (.app 1 1 (.k 7) (.k 11)) 1,
 .o 0 (.mv (.k 12))] false [0,1] [])
 (.reg [] [.o 13 (.mv (.k 1)),
 .o 14 (.bin .shr (.k 13) (.c (.i .u64 7))),
 .o 1 (.mv (.k 14))] false [0,1] []))))))
 (.seq (.reg [] [.o 15 (.mv (.k 0)),
 .o 16 (.mv (.k 1)),
 .o 17 (.cv (.int .u8) (.k 16)),
 .o 18 (.bs 1 1 (.i .u8 0) [(0,.k 17)]),
 .z 19 (.app 1 1 (.k 15) (.k 18)) 1,
 .o 4 (.mv (.k 19))] false [4] [])
 .ret)))⟩

def F_octet_Long : F := ⟨2,[.inl 4],
 (.seq (.reg [] [.o 4 (.mv (.c (.l .o 1 [])))] false [0,1] [])
 (.seq (.reg [] [.o 5 (.mv (.k 0)),
 .o 6 (.mv (.k 1)),
 .o 7 (.call n_octet_fixed_uint64 [.k 5,.k 6,.c (.i .i64 8)]),
 .o 4 (.mv (.k 7))] false [4] [])
 .ret))⟩

def F_octet_Word : F := ⟨2,[.inl 4],
 (.seq (.reg [] [.o 4 (.mv (.c (.l .o 1 [])))] false [0,1] [])
 (.seq (.reg [] [.o 5 (.mv (.k 0)),
 .o 6 (.mv (.k 1)),
 .o 7 (.call n_octet_fixed_uint32 [.k 5,.k 6,.c (.i .i64 4)]),
 .o 4 (.mv (.k 7))] false [4] [])
 .ret))⟩

def F_crc_Table_Sum : F := ⟨2,[.inl 4],
 (.seq (.reg [.zz 1] [.o 4 (.mv (.c (.i .u32 0)))] false [0,1] [])
 (.seq (.reg [] [.o 5 (.mv (.c (.i .u32 0)))] false [0,1,5] [])
 (.seq (.seq (.reg [] [.o 8 (.mv (.k 1)),
 .o 9 (.len false (.t 8)),
 .o 10 (.mv (.c (.i .i64 0)))] false [0,5,8,9,10] [])
 (.blk 0 (.loop (.seq (.reg [] [.o 11 (.bin .lss (.t 10) (.t 9))] false [0,5,8,9,10,11] [])
 (.seq (.cond 11 .skip
 (.exit 0))
 (.seq (.blk 1 (.seq (.reg [] [.o 12 (.ia 1 none (.t 8) (.t 10)),
 .o 13 (.ld false 1 .cp (.k 12)),
 .o 7 (.mv (.k 13))] false [0,5,7,8,9,10] [])
 (.reg [] [.o 14 (.mv (.t 0)),
 .o 15 (.mv (.k 5)),
 .o 16 (.mv (.k 7)),
 .o 17 (.call n_crc_Table_More [.k 14,.k 15,.k 16]),
 .o 5 (.mv (.k 17))] false [0,5,8,9,10] [])))
 (.reg [] [.o 18 (.bin .add (.k 10) (.c (.i .i64 1))),
 .o 10 (.mv (.k 18))] false [0,5,8,9,10] [])))))))
 (.seq (.reg [] [.o 19 (.mv (.k 5)),
 .o 4 (.mv (.k 19))] false [4] [])
 .ret))))⟩

def F_octet_Int : F := ⟨2,[.inl 4],
 (.seq (.reg [] [.o 4 (.mv (.c (.l .o 1 [])))] false [0,1] [])
 (.seq (.reg [] [.o 5 (.mv (.k 0)),
 .o 6 (.mv (.t 1)),
 .o 7 (.cv (.int .u64) (.k 6)),
 .o 8 (.bin .shl (.k 7) (.c (.i .u64 1))),
 .o 9 (.mv (.k 1)),
 .o 10 (.bin .shr (.k 9) (.c (.i .u64 63))),
 .o 11 (.cv (.int .u64) (.k 10)),
 .o 12 (.bin .xor (.k 8) (.k 11)),
 .o 13 (.call n_octet_Num [.k 5,.k 12]),
 .o 4 (.mv (.k 13))] false [4] [])
 .ret))⟩

def F_section_Of : F := ⟨1,[.inl 2],
 (.seq (.reg [.zz 0] [.o 1 (.bx (.k 0)),
 .o 2 (.mv (.c (.l .o 2 [])))] false [1] [1])
 (.seq (.reg [] [.z 3 (.ld true 5 .cp (.t 1)) 2,
 .o 4 (.call n_section_meta [.k 3]),
 .o 5 (.bd ([.i .i64 0,.s ⟨#[]⟩]) [(0,1,.c (.i .i64 1)),(1,1,.k 4)]),
 .u 6 (.ld true 5 .cp (.t 1)) [0,1,2] 2,
 .u 7 (.call n_section_data [.k 6]) [2] 0,
 .u 8 (.bd ([.i .i64 0,.s ⟨#[]⟩]) [(0,1,.c (.i .i64 2)),(1,1,.k 7)]) [2] 0,
 .z 9 (.bs 2 2 (.a ([.i .i64 0,.s ⟨#[]⟩])) [(0,.k 5),(1,.k 8)]) 1,
 .o 2 (.mv (.k 9))] true [2] [])
 .ret))⟩

def F_pile_New : F := ⟨1,[.inl 2],
 (.seq (.reg [.zz 0] [.o 2 (.mv (.c (.nilp)))] false [0] [])
 (.seq (.reg [] [.o 6 (.bd ([.l .x 2 []]) []),
 .o 7 (.bg (.k 6)),
 .o 3 (.mv (.k 7))] false [0,3] [])
 (.seq (.seq (.reg [] [.o 8 (.mv (.k 0)),
 .o 9 (.len false (.t 8)),
 .o 10 (.mv (.c (.i .i64 0)))] false [3,8,9,10] [])
 (.blk 0 (.loop (.seq (.reg [] [.o 11 (.bin .lss (.t 10) (.t 9))] false [3,8,9,10,11] [])
 (.seq (.cond 11 .skip
 (.exit 0))
 (.seq (.blk 1 (.seq (.reg [] [.o 12 (.ia 2 none (.t 8) (.t 10)),
 .o 13 (.ld true 2 .cp (.k 12)),
 .o 5 (.al ([.f .f64 0,.i .i64 0])),
 .s (.st 2 (.t 5) (.k 13))] false [3,5,8,9,10] [5])
 (.reg [] [.o 14 (.mv (.t 3)),
 .u 15 (.mv (.t 3)) [0] 0,
 .u 16 (.nc (.k 15)) [0] 0,
 .u 17 (.fa 0 (.k 16)) [0] 0,
 .u 18 (.ld false 1 .tk (.k 17)) [0] 0,
 .u 19 (.ld true 2 .cp (.k 5)) [0,1,2,3,4] 0,
 .u 20 (.callp n_pile_Item_Canon [.k 19]) [0,1,2,3,4] 0,
 .u 21 (.bs 2 1 (.a ([.f .f64 0,.i .i64 0])) [(0,.k 20)]) [0,1,2,3,4] 0,
 .u 22 (.app 2 16 (.k 18) (.k 21)) [0] 0,
 .o 23 (.nc (.k 14)),
 .o 24 (.fa 0 (.k 23)),
 .s (.st 1 (.k 24) (.k 22))] true [3,8,9,10] [])))
 (.reg [] [.o 25 (.bin .add (.k 10) (.c (.i .i64 1))),
 .o 10 (.mv (.k 25))] false [3,8,9,10] [])))))))
 (.seq (.reg [] [.o 26 (.mv (.t 3)),
 .o 27 (.nc (.k 26)),
 .o 28 (.fa 0 (.k 27)),
 .o 29 (.mi t_pile_items_u (.k 28)),
 .o 30 (.call n_container_heap_Init [.k 29])] false [3] [])
 (.seq (.reg [] [.o 31 (.mv (.k 3)),
 .o 2 (.mv (.k 31))] false [2] [])
 .ret)))))⟩

def F_pile_Pile_All : F := ⟨1,[.inl 2],
 (.seq (.reg [] [.o 2 (.mv (.c (.l .o 2 [])))] false [0] [])
 (.seq (.reg [] [.o 7 (.bs 2 0 (.a ([.f .f64 0,.i .i64 0])) []),
 .o 8 (.mv (.k 0)),
 .o 9 (.nc (.k 8)),
 .o 10 (.fa 0 (.k 9)),
 .z 11 (.lda 1 (.k 10)) 1,
 .o 12 (.app 2 16 (.k 7) (.k 11)),
 .o 13 (.bd ([.l .x 2 []]) [(0,1,.k 12)]),
 .o 14 (.bg (.k 13)),
 .o 3 (.mv (.k 14))] false [3] [])
 (.seq (.reg [] [.o 4 (.mv (.c (.l .o 2 [])))] false [3,4] [])
 (.blk 0 (.loop (.blk 1 (.seq (.reg [] [.o 16 (.mv (.t 3)),
 .o 17 (.call n_pile_Pile_Take [.k 16]),
 .o 15 (.mv (.k 17)),
 .o 18 (.ex false 0 15),
 .o 19 (.ex false 1 15),
 .o 5 (.al ([.f .f64 0,.i .i64 0])),
 .s (.st 2 (.t 5) (.k 18)),
 .o 6 (.mv (.k 19))] false [3,4,5,6] [5])
 (.seq (.seq (.reg [] [.o 20 (.mv (.k 6)),
 .o 21 (.un .not (.k 20))] false [3,4,5,21] [5])
 (.cond 21 (.seq (.reg [] [.o 22 (.mv (.k 4)),
 .o 2 (.mv (.k 22))] false [2] [])
 .ret)
 .skip))
 (.reg [] [.o 23 (.mv (.k 4)),
 .o 24 (.ld true 2 .cp (.k 5)),
 .o 25 (.bs 2 1 (.a ([.f .f64 0,.i .i64 0])) [(0,.k 24)]),
 .z 26 (.app 2 16 (.k 23) (.k 25)) 1,
 .o 4 (.mv (.k 26))] false [3,4] [])))))))))⟩

def F_real_Cmp : F := ⟨2,[.inl 4],
 (.seq (.reg [] [.o 4 (.mv (.c (.i .i64 0)))] false [0,1] [])
 (.seq (.reg [] [.o 7 (.mv (.k 0)),
 .o 8 (.call n_real_Key [.k 7]),
 .o 9 (.mv (.k 1)),
 .o 10 (.call n_real_Key [.k 9]),
 .o 5 (.mv (.k 8)),
 .o 6 (.mv (.k 10))] false [5,6] [])
 (.seq (.blk 0 (.seq (.reg [] [.o 12 (.mv (.t 5)),
 .o 13 (.mv (.t 6)),
 .o 14 (.bin .lss (.k 12) (.k 13)),
 .o 11 (.mv (.k 14))] false [5,6,11] [])
 (.cond 11 (.seq (.reg [] [.o 4 (.mv (.c (.i .i64 (-1))))] false [4] [])
 .ret)
 (.seq (.reg [] [.o 16 (.mv (.k 5)),
 .o 17 (.mv (.k 6)),
 .o 18 (.bin .gtr (.k 16) (.k 17)),
 .o 15 (.mv (.k 18))] false [15] [])
 (.cond 15 (.seq (.reg [] [.o 4 (.mv (.c (.i .i64 1)))] false [4] [])
 .ret)
 .skip)))))
 (.seq (.reg [] [.o 4 (.mv (.c (.i .i64 0)))] false [4] [])
 .ret))))⟩

def F_octet_Of : F := ⟨1,[.inl 2],
 (.seq (.reg [] [.o 2 (.mv (.c (.nilp)))] false [0] [])
 (.seq (.reg [] [.o 3 (.mv (.k 0)),
 .o 4 (.bd ([.s ⟨#[]⟩,.i .i64 0]) [(0,1,.k 3)]),
 .o 5 (.bg (.k 4)),
 .o 2 (.mv (.k 5))] false [2] [])
 .ret))⟩

def F_octet_In_Bytes : F := ⟨2,[.inl 4],
 (.seq (.reg [] [.o 4 (.mv (.c (.s ⟨#[]⟩)))] false [0,1] [])
 (.seq (.blk 0 (.seq (.reg [] [.o 7 (.mv (.t 0)),
 .o 8 (.nc (.k 7)),
 .o 9 (.fa 1 (.k 8)),
 .o 10 (.ld false 1 .cp (.k 9)),
 .o 11 (.bin .neq (.k 10) (.c (.i .i64 0))),
 .o 12 (.mv (.k 11)),
 .c 12 false 13 (.mv (.t 1)),
 .c 12 false 14 (.bin .leq (.k 13) (.c (.i .i64 0))),
 .o 15 (.pick (.k 12) (.c (.b true)) (.k 14)),
 .o 6 (.mv (.k 15))] false [0,1,6] [])
 (.cond 6 (.seq (.reg [] [.o 4 (.mv (.c (.s ⟨#[]⟩)))] false [4] [])
 .ret)
 (.seq (.reg [] [.o 17 (.mv (.t 1)),
 .o 18 (.mv (.t 0)),
 .o 19 (.nc (.k 18)),
 .o 20 (.fa 0 (.k 19)),
 .o 21 (.ld false 1 .cp (.k 20)),
 .o 22 (.len true (.k 21)),
 .o 23 (.bin .gtr (.k 17) (.k 22)),
 .o 16 (.mv (.k 23))] false [0,1,16] [])
 (.cond 16 (.seq (.reg [] [.o 24 (.mv (.k 0)),
 .o 25 (.call n_octet_In_fail [.k 24,.c (.i .i64 1)])] false [] [])
 (.seq (.reg [] [.o 4 (.mv (.c (.s ⟨#[]⟩)))] false [4] [])
 .ret))
 .skip)))))
 (.seq (.reg [] [.o 26 (.mv (.t 0)),
 .o 27 (.nc (.k 26)),
 .o 28 (.fa 0 (.k 27)),
 .o 29 (.ld false 1 .cp (.k 28)),
 .o 30 (.mv (.t 1)),
 .o 31 (.ss (.k 29) none (some (.k 30))),
 .o 5 (.mv (.k 31))] false [0,1,5] [])
 (.seq (.reg [] [.o 32 (.mv (.t 0)),
 .o 33 (.mv (.k 0)),
 .o 34 (.nc (.k 33)),
 .o 35 (.fa 0 (.k 34)),
 .o 36 (.ld false 1 .cp (.k 35)),
 .o 37 (.mv (.k 1)),
 .o 38 (.ss (.k 36) (some (.k 37)) none),
 .o 39 (.nc (.k 32)),
 .o 40 (.fa 0 (.k 39)),
 .s (.st 1 (.k 40) (.k 38))] false [5] [])
 (.seq (.reg [] [.o 41 (.mv (.k 5)),
 .o 4 (.mv (.k 41))] false [4] [])
 .ret)))))⟩

def F_octet_In_Byte : F := ⟨1,[.inl 2],
 (.seq (.reg [] [.o 2 (.mv (.c (.i .u8 0)))] false [0] [])
 (.seq (.reg [] [.o 4 (.mv (.k 0)),
 .o 5 (.call n_octet_In_Bytes [.k 4,.c (.i .i64 1)]),
 .o 3 (.mv (.k 5))] false [3] [])
 (.seq (.seq (.reg [] [.o 6 (.mv (.t 3)),
 .o 7 (.bin .eql (.k 6) (.c (.s ⟨#[]⟩)))] false [3,7] [])
 (.cond 7 (.seq (.reg [] [.o 2 (.mv (.c (.i .u8 0)))] false [2] [])
 .ret)
 .skip))
 (.seq (.reg [] [.o 8 (.mv (.k 3)),
 .o 9 (.ixs (.k 8) (.c (.i .i64 0))),
 .o 2 (.mv (.k 9))] false [2] [])
 .ret))))⟩

def F_octet_In_Word : F := ⟨1,[.inl 2],
 (.seq (.reg [] [.o 2 (.mv (.c (.i .u32 0)))] false [0] [])
 (.seq (.reg [] [.o 3 (.mv (.c (.i .u32 0)))] false [0,3] [])
 (.seq (.seq (.reg [] [.o 6 (.mv (.k 0)),
 .o 7 (.call n_octet_In_Bytes [.k 6,.c (.i .i64 4)]),
 .z 8 (.cv .bytes (.k 7)) 1,
 .o 9 (.len false (.t 8)),
 .o 10 (.mv (.c (.i .i64 0)))] false [3,8,9,10] [])
 (.blk 0 (.loop (.seq (.reg [] [.o 11 (.bin .lss (.t 10) (.t 9))] false [3,8,9,10,11] [])
 (.seq (.cond 11 .skip
 (.exit 0))
 (.seq (.blk 1 (.seq (.reg [] [.o 12 (.mv (.t 10)),
 .o 13 (.ia 1 none (.t 8) (.t 10)),
 .o 14 (.ld false 1 .cp (.k 13)),
 .o 4 (.mv (.k 12)),
 .o 5 (.mv (.k 14))] false [3,4,5,8,9,10] [])
 (.reg [] [.o 15 (.mv (.k 3)),
 .o 16 (.mv (.k 5)),
 .o 17 (.cv (.int .u32) (.k 16)),
 .o 18 (.mv (.k 4)),
 .o 19 (.bin .mul (.c (.i .i64 8)) (.k 18)),
 .o 20 (.bin .shl (.k 17) (.k 19)),
 .o 21 (.bin .or (.k 15) (.k 20)),
 .o 3 (.mv (.k 21))] false [3,8,9,10] [])))
 (.reg [] [.o 22 (.bin .add (.k 10) (.c (.i .i64 1))),
 .o 10 (.mv (.k 22))] false [3,8,9,10] [])))))))
 (.seq (.reg [] [.o 23 (.mv (.k 3)),
 .o 2 (.mv (.k 23))] false [2] [])
 .ret))))⟩

def F_octet_In_Err : F := ⟨1,[.inl 2],
 (.seq (.reg [] [.o 2 (.mv (.c (.i .i64 0)))] false [0] [])
 (.seq (.reg [] [.o 3 (.mv (.k 0)),
 .o 4 (.nc (.k 3)),
 .o 5 (.fa 1 (.k 4)),
 .o 6 (.ld false 1 .cp (.k 5)),
 .o 2 (.mv (.k 6))] false [2] [])
 .ret))⟩

def F_octet_In_Num : F := ⟨2,[.inl 4],
 (.seq (.reg [] [.o 4 (.mv (.c (.i .u64 0)))] false [0,1] [])
 (.seq (.reg [] [.o 5 (.mv (.c (.i .u64 0))),
 .o 6 (.mv (.c (.i .i64 0)))] false [0,1,5,6] [])
 (.seq (.seq (.reg [] [.o 7 (.mv (.c (.i .i64 0)))] false [0,1,5,6,7] [])
 (.blk 0 (.loop (.seq (.blk 1 (.seq (.reg [] [.o 11 (.mv (.t 0)),
 .o 12 (.call n_octet_In_Byte [.k 11]),
 .o 8 (.mv (.k 12))] false [0,1,5,6,7,8] [])
 (.seq (.seq (.reg [] [.o 13 (.mv (.t 0)),
 .o 14 (.nc (.k 13)),
 .o 15 (.fa 1 (.k 14)),
 .o 16 (.ld false 1 .cp (.k 15)),
 .o 17 (.bin .neq (.k 16) (.c (.i .i64 0)))] false [0,1,5,6,7,8,17] [])
 (.cond 17 (.seq (.reg [] [.o 4 (.mv (.c (.i .u64 0)))] false [4] [])
 .ret)
 .skip))
 (.seq (.reg [] [.o 18 (.mv (.k 5)),
 .o 19 (.mv (.t 8)),
 .o 20 (.bin .and (.k 19) (.c (.i .u8 127))),
 .o 21 (.cv (.int .u64) (.k 20)),
 .o 22 (.mv (.t 7)),
 .o 23 (.bin .mul (.c (.i .i64 7)) (.k 22)),
 .o 24 (.bin .shl (.k 21) (.k 23)),
 .o 25 (.bin .or (.k 18) (.k 24)),
 .o 5 (.mv (.k 25))] false [0,1,5,6,7,8] [])
 (.seq (.seq (.reg [] [.o 26 (.mv (.t 7)),
 .o 27 (.bin .eql (.k 26) (.c (.i .i64 9))),
 .o 28 (.mv (.k 27)),
 .c 28 true 29 (.mv (.t 8)),
 .c 28 true 30 (.bin .gtr (.k 29) (.c (.i .u8 1))),
 .o 31 (.pick (.k 28) (.k 30) (.c (.b false)))] false [0,1,5,6,7,8,31] [])
 (.cond 31 (.seq (.reg [] [.o 6 (.mv (.c (.i .i64 2)))] false [0,1,5,6] [])
 (.exit 0))
 .skip))
 (.seq (.reg [] [.o 32 (.mv (.t 8)),
 .o 33 (.bin .lss (.k 32) (.c (.i .u8 128)))] false [0,1,5,6,7,8,33] [])
 (.cond 33 (.seq (.seq (.reg [] [.o 34 (.mv (.k 8)),
 .o 35 (.bin .eql (.k 34) (.c (.i .u8 0))),
 .o 36 (.mv (.k 35)),
 .c 36 true 37 (.mv (.k 7)),
 .c 36 true 38 (.bin .gtr (.k 37) (.c (.i .i64 0))),
 .o 39 (.pick (.k 36) (.k 38) (.c (.b false)))] false [0,1,5,6,39] [])
 (.cond 39 (.reg [] [.o 6 (.mv (.c (.i .i64 2)))] false [0,1,5,6] [])
 .skip))
 (.exit 0))
 .skip)))))))
 (.reg [] [.o 9 (.mv (.k 7)),
 .o 10 (.bin .add (.k 9) (.c (.i .i64 1))),
 .o 7 (.mv (.k 10))] false [0,1,5,6,7] [])))))
 (.seq (.seq (.reg [] [.o 40 (.mv (.t 6)),
 .o 41 (.bin .eql (.k 40) (.c (.i .i64 0))),
 .o 42 (.mv (.k 41)),
 .c 42 true 43 (.mv (.t 5)),
 .c 42 true 44 (.mv (.k 1)),
 .c 42 true 45 (.bin .gtr (.k 43) (.k 44)),
 .o 46 (.pick (.k 42) (.k 45) (.c (.b false)))] false [0,5,6,46] [])
 (.cond 46 (.reg [] [.o 6 (.mv (.c (.i .i64 3)))] false [0,5,6] [])
 .skip))
 (.seq (.seq (.reg [] [.o 47 (.mv (.t 6)),
 .o 48 (.bin .neq (.k 47) (.c (.i .i64 0)))] false [0,5,6,48] [])
 (.cond 48 (.seq (.reg [] [.o 49 (.mv (.k 0)),
 .o 50 (.mv (.k 6)),
 .o 51 (.call n_octet_In_fail [.k 49,.k 50])] false [] [])
 (.seq (.reg [] [.o 4 (.mv (.c (.i .u64 0)))] false [4] [])
 .ret))
 .skip))
 (.seq (.reg [] [.o 52 (.mv (.k 5)),
 .o 4 (.mv (.k 52))] false [4] [])
 .ret))))))⟩

def F_octet_In_End : F := ⟨1,[.inl 2],
 (.seq (.reg [] [.o 2 (.mv (.c (.i .i64 0)))] false [0] [])
 (.seq (.seq (.reg [] [.o 3 (.mv (.t 0)),
 .o 4 (.nc (.k 3)),
 .o 5 (.fa 1 (.k 4)),
 .o 6 (.ld false 1 .cp (.k 5)),
 .o 7 (.bin .eql (.k 6) (.c (.i .i64 0))),
 .o 8 (.mv (.k 7)),
 .c 8 true 9 (.mv (.t 0)),
 .c 8 true 10 (.nc (.k 9)),
 .c 8 true 11 (.fa 0 (.k 10)),
 .c 8 true 12 (.ld false 1 .cp (.k 11)),
 .c 8 true 13 (.len true (.k 12)),
 .c 8 true 14 (.bin .gtr (.k 13) (.c (.i .i64 0))),
 .o 15 (.pick (.k 8) (.k 14) (.c (.b false)))] false [0,15] [])
 (.cond 15 (.reg [] [.o 16 (.mv (.t 0)),
 .o 17 (.call n_octet_In_fail [.k 16,.c (.i .i64 2)])] false [0] [])
 .skip))
 (.seq (.reg [] [.o 18 (.mv (.k 0)),
 .o 19 (.nc (.k 18)),
 .o 20 (.fa 1 (.k 19)),
 .o 21 (.ld false 1 .cp (.k 20)),
 .o 2 (.mv (.k 21))] false [2] [])
 .ret)))⟩

def F_section_read : F := ⟨3,[.inl 6,.inl 7,.inl 8],
 (.seq (.reg [] [.o 6 (.mv (.c (.l .o 1 []))),
 .o 7 (.mv (.c (.l .o 1 []))),
 .o 8 (.mv (.c (.i .i64 0)))] false [0,1,2] [])
 (.seq (.reg [] [.o 16 (.mv (.k 0)),
 .o 17 (.mv (.k 1)),
 .o 18 (.call n_image_Shape [.k 16,.k 17]),
 .o 15 (.mv (.k 18)),
 .o 19 (.ex false 0 15),
 .o 20 (.ex false 1 15),
 .o 9 (.mv (.k 19)),
 .o 10 (.mv (.k 20))] false [2,9,10] [])
 (.seq (.reg [] [.o 11 (.mv (.c (.l .o 1 [])))] false [2,9,10,11] [])
 (.seq (.reg [] [.o 12 (.mv (.c (.l .o 1 [])))] false [2,9,10,11,12] [])
 (.seq (.seq (.reg [] [.o 21 (.mv (.k 9)),
 .o 22 (.mv (.c (.i .i64 0)))] false [2,10,11,12,21,22] [])
 (.blk 0 (.loop (.seq (.reg [] [.o 23 (.bin .lss (.t 22) (.t 21))] false [2,10,11,12,21,22,23] [])
 (.seq (.cond 23 .skip
 (.exit 0))
 (.seq (.blk 1 (.seq (.reg [] [.o 25 (.mv (.t 2)),
 .o 26 (.call n_section_take [.k 25]),
 .o 24 (.mv (.k 26)),
 .o 27 (.ex true 0 24),
 .o 28 (.ex false 1 24),
 .o 13 (.mv (.k 27)),
 .o 14 (.mv (.k 28))] false [2,10,11,12,13,14,21,22] [])
 (.seq (.seq (.reg [] [.o 29 (.mv (.t 14)),
 .o 30 (.bin .neq (.k 29) (.c (.i .i64 0)))] false [2,10,11,12,13,14,21,22,30] [])
 (.cond 30 (.seq (.reg [] [.o 31 (.mv (.k 14)),
 .o 6 (.mv (.c (.l .o 1 []))),
 .o 7 (.mv (.c (.l .o 1 []))),
 .o 8 (.mv (.k 31))] false [6,7,8] [])
 .ret)
 .skip))
 (.reg [] [.o 32 (.mv (.k 11)),
 .o 33 (.mv (.k 13)),
 .o 34 (.bs 1 1 (.l .o 2 []) [(0,.k 33)]),
 .z 35 (.app 1 24 (.k 32) (.k 34)) 1,
 .o 11 (.mv (.k 35))] false [2,10,11,12,21,22] []))))
 (.reg [] [.o 36 (.bin .add (.k 22) (.c (.i .i64 1))),
 .o 22 (.mv (.k 36))] false [2,10,11,12,21,22] [])))))))
 (.seq (.seq (.reg [] [.o 37 (.mv (.k 10)),
 .o 38 (.mv (.c (.i .i64 0)))] false [2,11,12,37,38] [])
 (.blk 2 (.loop (.seq (.reg [] [.o 39 (.bin .lss (.t 38) (.t 37))] false [2,11,12,37,38,39] [])
 (.seq (.cond 39 .skip
 (.exit 2))
 (.seq (.blk 3 (.reg [] [.o 40 (.mv (.k 12)),
 .o 41 (.mv (.t 2)),
 .o 42 (.call n_octet_In_Num [.k 41,.c (.i .u64 1125899906842624)]),
 .o 43 (.cv (.int .i64) (.k 42)),
 .o 44 (.bs 1 1 (.i .i64 0) [(0,.k 43)]),
 .z 45 (.app 1 8 (.k 40) (.k 44)) 1,
 .o 12 (.mv (.k 45))] false [2,11,12,37,38] []))
 (.reg [] [.o 46 (.bin .add (.k 38) (.c (.i .i64 1))),
 .o 38 (.mv (.k 46))] false [2,11,12,37,38] [])))))))
 (.seq (.reg [] [.o 47 (.mv (.k 11)),
 .o 48 (.mv (.k 12)),
 .o 49 (.mv (.k 2)),
 .o 50 (.call n_octet_In_End [.k 49]),
 .o 6 (.mv (.k 47)),
 .o 7 (.mv (.k 48)),
 .o 8 (.mv (.k 50))] false [6,7,8] [])
 .ret)))))))⟩

def F_internal_stringslite_HasPrefix : F := ⟨2,[.inl 4],
 (.seq (.reg [] [.o 4 (.mv (.c (.b false)))] false [0,1] [])
 (.seq (.reg [] [.o 5 (.mv (.t 0)),
 .o 6 (.len true (.k 5)),
 .o 7 (.mv (.t 1)),
 .o 8 (.len true (.k 7)),
 .o 9 (.bin .geq (.k 6) (.k 8)),
 .o 10 (.mv (.k 9)),
 .c 10 true 11 (.mv (.k 0)),
 .c 10 true 12 (.mv (.t 1)),
 .c 10 true 13 (.len true (.k 12)),
 .c 10 true 14 (.ss (.k 11) none (some (.k 13))),
 .c 10 true 15 (.mv (.k 1)),
 .c 10 true 16 (.bin .eql (.k 14) (.k 15)),
 .o 17 (.pick (.k 10) (.k 16) (.c (.b false))),
 .o 4 (.mv (.k 17))] false [4] [])
 .ret))⟩

def F_c_ref04_Cmp : F := ⟨2,[.inl 4],
 (.seq (.reg [] [.o 2 (.bx (.k 0)),
 .o 3 (.bx (.k 1)),
 .o 4 (.mv (.c (.i .i64 0)))] false [2,3] [2,3])
 (.seq (.reg [] [.o 6 (.fa 0 (.t 2)),
 .o 7 (.ld false 1 .cp (.k 6)),
 .o 8 (.fa 0 (.t 3)),
 .o 9 (.ld false 1 .cp (.k 8)),
 .o 10 (.call n_c_ref03_Cmp [.k 7,.k 9]),
 .o 5 (.mv (.k 10))] false [2,3,5] [2,3])
 (.seq (.seq (.reg [] [.o 11 (.mv (.t 5)),
 .o 12 (.bin .eql (.k 11) (.c (.i .i64 0))),
 .o 13 (.mv (.k 12)),
 .c 13 true 14 (.fa 1 (.t 2)),
 .c 13 true 15 (.ld false 1 .cp (.k 14)),
 .c 13 true 16 (.fa 1 (.t 3)),
 .c 13 true 17 (.ld false 1 .cp (.k 16)),
 .c 13 true 18 (.bin .lss (.k 15) (.k 17)),
 .o 19 (.pick (.k 13) (.k 18) (.c (.b false)))] false [2,3,5,19] [2,3])
 (.cond 19 (.reg [] [.o 5 (.mv (.c (.i .i64 (-1))))] false [2,3,5] [2,3])
 .skip))
 (.seq (.seq (.reg [] [.o 20 (.mv (.t 5)),
 .o 21 (.bin .eql (.k 20) (.c (.i .i64 0))),
 .o 22 (.mv (.k 21)),
 .c 22 true 23 (.fa 1 (.k 2)),
 .c 22 true 24 (.ld false 1 .cp (.k 23)),
 .c 22 true 25 (.fa 1 (.k 3)),
 .c 22 true 26 (.ld false 1 .cp (.k 25)),
 .c 22 true 27 (.bin .gtr (.k 24) (.k 26)),
 .o 28 (.pick (.k 22) (.k 27) (.c (.b false)))] false [5,28] [])
 (.cond 28 (.reg [] [.o 5 (.mv (.c (.i .i64 1)))] false [5] [])
 .skip))
 (.seq (.reg [] [.o 29 (.mv (.k 5)),
 .o 4 (.mv (.k 29))] false [4] [])
 .ret)))))⟩

def F_c_ref03_Key : F := ⟨1,[.inl 2],
 (.seq (.reg [] [.o 2 (.mv (.c (.i .u64 0)))] false [0] [])
 (.seq (.reg [] [.o 3 (.mv (.k 0)),
 .o 4 (.call n_c_ref03_Bits [.k 3]),
 .o 0 (.mv (.k 4))] false [0] [])
 (.seq (.seq (.reg [] [.o 5 (.mv (.t 0)),
 .o 6 (.bin .geq (.k 5) (.c (.i .u64 9223372036854775808)))] false [0,6] [])
 (.cond 6 (.seq (.reg [] [.o 7 (.mv (.k 0)),
 .o 8 (.bin .sub (.c (.i .u64 18446744073709551615)) (.k 7)),
 .o 2 (.mv (.k 8))] false [2] [])
 .ret)
 .skip))
 (.seq (.reg [] [.o 9 (.mv (.k 0)),
 .o 10 (.bin .add (.k 9) (.c (.i .u64 9223372036854775808))),
 .o 2 (.mv (.k 10))] false [2] [])
 .ret))))⟩

def F_c_ref20_number : F := ⟨1,[.inl 2],
 (.seq (.reg [] [.o 2 (.mv (.c (.i .i64 0)))] false [0] [])
 (.seq (.reg [] [.o 3 (.mv (.t 0)),
 .o 4 (.ixs (.k 3) (.c (.i .i64 0))),
 .o 5 (.cv (.int .i64) (.k 4)),
 .u 6 (.mv (.t 0)) [0,1,2] 0,
 .u 7 (.ixs (.k 6) (.c (.i .i64 1))) [0,1,2] 0,
 .u 8 (.cv (.int .i64) (.k 7)) [0,1,2] 0,
 .u 9 (.bin .mul (.c (.i .i64 256)) (.k 8)) [0,1,2] 0,
 .o 10 (.bin .add (.k 5) (.k 9)),
 .u 11 (.mv (.t 0)) [0,1,2,3,4,5,6,7] 0,
 .u 12 (.ixs (.k 11) (.c (.i .i64 2))) [0,1,2,3,4,5,6,7] 0,
 .u 13 (.cv (.int .i64) (.k 12)) [0,1,2,3,4,5,6,7] 0,
 .u 14 (.bin .mul (.c (.i .i64 65536)) (.k 13)) [0,1,2,3,4,5,6,7] 0,
 .o 15 (.bin .add (.k 10) (.k 14)),
 .u 16 (.mv (.t 0)) [0,1,2,3,4,5,6,7,8,9,10,11,12] 0,
 .u 17 (.ixs (.k 16) (.c (.i .i64 3))) [0,1,2,3,4,5,6,7,8,9,10,11,12] 0,
 .u 18 (.cv (.int .i64) (.k 17)) [0,1,2,3,4,5,6,7,8,9,10,11,12] 0,
 .u 19 (.bin .mul (.c (.i .i64 16777216)) (.k 18)) [0,1,2,3,4,5,6,7,8,9,10,11,12] 0,
 .o 20 (.bin .add (.k 15) (.k 19)),
 .o 2 (.mv (.k 20))] true [2] [])
 .ret))⟩

def F_c_ref19_Read : F := ⟨3,[.inr (6,true,5),.inl 7],
 (.seq (.reg [] [.o 6 (.al ([.i .i64 0,.i .i64 0,.i .u64 0,.l .o 1 [],.l .o 1 []])),
 .o 7 (.mv (.c (.i .i64 0)))] false [0,1,2,6] [6])
 (.seq (.reg [] [.o 25 (.mv (.k 1)),
 .o 26 (.bd ([.s ⟨#[]⟩,.i .i64 0]) [(0,1,.k 25)]),
 .o 27 (.call n_c_ref01_Number [.k 26,.c (.i .u64 255)]),
 .o 24 (.mv (.k 27)),
 .o 28 (.ex false 0 24),
 .o 29 (.ex false 1 24),
 .o 8 (.al ([.s ⟨#[]⟩,.i .i64 0])),
 .s (.st 2 (.t 8) (.k 28)),
 .o 9 (.mv (.k 29))] false [0,2,6,8,9] [6,8])
 (.seq (.reg [] [.o 31 (.ld true 2 .cp (.k 8)),
 .o 32 (.call n_c_ref01_Number [.k 31,.c (.i .u64 18446744073709551615)]),
 .o 30 (.mv (.k 32)),
 .o 33 (.ex false 0 30),
 .o 34 (.ex false 1 30),
 .o 10 (.al ([.s ⟨#[]⟩,.i .i64 0])),
 .s (.st 2 (.t 10) (.k 33)),
 .o 11 (.mv (.k 34))] false [0,2,6,9,10,11] [6,10])
 (.seq (.seq (.reg [] [.o 35 (.ld true 2 .cp (.k 10)),
 .o 36 (.call n_c_ref19_end [.k 35]),
 .o 12 (.al ([.s ⟨#[]⟩,.i .i64 0])),
 .s (.st 2 (.t 12) (.k 36))] false [0,2,6,9,11,12] [6,12])
 (.seq (.reg [] [.o 37 (.fa 1 (.t 12)),
 .o 38 (.ld false 1 .cp (.k 37)),
 .o 39 (.bin .neq (.k 38) (.c (.i .i64 0)))] false [0,2,6,9,11,12,39] [6,12])
 (.cond 39 (.seq (.reg [] [.o 40 (.bd ([.i .i64 0,.i .i64 0,.i .u64 0,.l .o 1 [],.l .o 1 []]) []),
 .u 41 (.fa 1 (.k 12)) [0] 0,
 .u 42 (.ld false 1 .cp (.k 41)) [0] 0,
 ⟨none,none,.st 5 (.t 6) (.k 40),[1,2],0⟩,
 .o 7 (.mv (.k 42))] true [6,7] [6])
 .ret)
 .skip)))
 (.seq (.reg [] [.o 43 (.mv (.t 0)),
 .o 44 (.mv (.k 9)),
 .o 45 (.cv (.int .i64) (.k 44)),
 .o 46 (.mv (.k 11)),
 .o 47 (.bd ([.i .i64 0,.i .i64 0,.i .u64 0,.l .o 1 [],.l .o 1 []]) [(0,1,.k 43),(1,1,.k 45),(2,1,.k 46)]),
 .o 13 (.al ([.i .i64 0,.i .i64 0,.i .u64 0,.l .o 1 [],.l .o 1 []])),
 .s (.st 5 (.t 13) (.k 47))] false [0,2,6,13] [6,13])
 (.seq (.reg [] [.o 48 (.mv (.k 2)),
 .o 49 (.bd ([.s ⟨#[]⟩,.i .i64 0]) [(0,1,.k 48)]),
 .o 14 (.al ([.s ⟨#[]⟩,.i .i64 0])),
 .s (.st 2 (.t 14) (.k 49))] false [0,6,13,14] [6,13,14])
 (.seq (.reg [] [.o 50 (.fa 1 (.t 13)),
 .o 51 (.ld false 1 .cp (.k 50)),
 .z 52 (.bs 1 5 (.i .i64 0) [(0,.c (.i .i64 0)),(1,.k 51),(2,.c (.i .i64 1)),(3,.c (.i .i64 0)),(4,.c (.i .i64 0))]) 1,
 .o 53 (.mv (.t 0)),
 .o 54 (.ia 1 none (.k 52) (.k 53)),
 .o 55 (.ld false 1 .cp (.k 54)),
 .o 15 (.mv (.k 55))] false [0,6,13,14,15] [6,13,14])
 (.seq (.reg [] [.o 56 (.fa 1 (.t 13)),
 .o 57 (.ld false 1 .cp (.k 56)),
 .z 58 (.bs 1 5 (.i .i64 0) [(0,.c (.i .i64 0)),(1,.c (.i .i64 0)),(2,.c (.i .i64 0)),(3,.k 57),(4,.c (.i .i64 1))]) 1,
 .o 59 (.mv (.k 0)),
 .o 60 (.ia 1 none (.k 58) (.k 59)),
 .o 61 (.ld false 1 .cp (.k 60)),
 .o 16 (.mv (.k 61))] false [6,13,14,15,16] [6,13,14])
 (.seq (.seq (.reg [] [.o 17 (.mv (.c (.i .i64 0)))] false [6,13,14,15,16,17] [6,13,14])
 (.blk 0 (.loop (.seq (.seq (.reg [] [.o 62 (.mv (.t 17)),
 .o 63 (.mv (.t 15)),
 .o 64 (.bin .lss (.k 62) (.k 63))] false [6,13,14,15,16,17,64] [6,13,14])
 (.cond 64 .skip
 (.exit 0)))
 (.seq (.blk 1 (.seq (.reg [] [.o 68 (.ld true 2 .cp (.t 14)),
 .o 69 (.call n_c_ref19_items [.k 68]),
 .o 67 (.mv (.k 69)),
 .o 70 (.ex false 0 67),
 .o 71 (.ex false 1 67),
 .o 18 (.al ([.s ⟨#[]⟩,.i .i64 0])),
 .s (.st 2 (.t 18) (.k 70)),
 .o 19 (.mv (.k 71))] false [6,13,14,15,16,17,18,19] [6,13,14,18])
 (.seq (.reg [] [.o 72 (.ld true 2 .cp (.k 18)),
 .s (.st 2 (.t 14) (.k 72))] false [6,13,14,15,16,17,19] [6,13,14])
 (.reg [] [.o 73 (.fa 3 (.t 13)),
 .o 74 (.ld false 1 .tk (.k 73)),
 .o 75 (.mv (.k 19)),
 .o 76 (.bs 1 1 (.l .o 2 []) [(0,.k 75)]),
 .z 77 (.app 1 24 (.k 74) (.k 76)) 1,
 .o 78 (.fa 3 (.t 13)),
 .s (.st 1 (.k 78) (.k 77))] false [6,13,14,15,16,17] [6,13,14]))))
 (.reg [] [.o 65 (.mv (.k 17)),
 .o 66 (.bin .add (.k 65) (.c (.i .i64 1))),
 .o 17 (.mv (.k 66))] false [6,13,14,15,16,17] [6,13,14]))))))
 (.seq (.seq (.reg [] [.o 20 (.mv (.c (.i .i64 0)))] false [6,13,14,16,20] [6,13,14])
 (.blk 2 (.loop (.seq (.seq (.reg [] [.o 79 (.mv (.t 20)),
 .o 80 (.mv (.t 16)),
 .o 81 (.bin .lss (.k 79) (.k 80))] false [6,13,14,16,20,81] [6,13,14])
 (.cond 81 .skip
 (.exit 2)))
 (.seq (.blk 3 (.seq (.reg [] [.o 85 (.ld true 2 .cp (.t 14)),
 .o 86 (.call n_c_ref01_Number [.k 85,.c (.i .u64 1125899906842624)]),
 .o 84 (.mv (.k 86)),
 .o 87 (.ex false 0 84),
 .o 88 (.ex false 1 84),
 .o 21 (.al ([.s ⟨#[]⟩,.i .i64 0])),
 .s (.st 2 (.t 21) (.k 87)),
 .o 22 (.mv (.k 88))] false [6,13,14,16,20,21,22] [6,13,14,21])
 (.seq (.reg [] [.o 89 (.ld true 2 .cp (.k 21)),
 .s (.st 2 (.t 14) (.k 89))] false [6,13,14,16,20,22] [6,13,14])
 (.reg [] [.o 90 (.fa 4 (.t 13)),
 .o 91 (.ld false 1 .tk (.k 90)),
 .o 92 (.mv (.k 22)),
 .o 93 (.cv (.int .i64) (.k 92)),
 .o 94 (.bs 1 1 (.i .i64 0) [(0,.k 93)]),
 .z 95 (.app 1 8 (.k 91) (.k 94)) 1,
 .o 96 (.fa 4 (.t 13)),
 .s (.st 1 (.k 96) (.k 95))] false [6,13,14,16,20] [6,13,14]))))
 (.reg [] [.o 82 (.mv (.k 20)),
 .o 83 (.bin .add (.k 82) (.c (.i .i64 1))),
 .o 20 (.mv (.k 83))] false [6,13,14,16,20] [6,13,14]))))))
 (.seq (.seq (.reg [] [.o 97 (.ld true 2 .cp (.k 14)),
 .o 98 (.call n_c_ref19_end [.k 97]),
 .o 23 (.al ([.s ⟨#[]⟩,.i .i64 0])),
 .s (.st 2 (.t 23) (.k 98))] false [6,13,23] [6,13,23])
 (.seq (.reg [] [.o 99 (.fa 1 (.t 23)),
 .o 100 (.ld false 1 .cp (.k 99)),
 .o 101 (.bin .neq (.k 100) (.c (.i .i64 0)))] false [6,13,23,101] [6,13,23])
 (.cond 101 (.seq (.reg [] [.o 102 (.bd ([.i .i64 0,.i .i64 0,.i .u64 0,.l .o 1 [],.l .o 1 []]) []),
 .u 103 (.fa 1 (.k 23)) [0] 0,
 .u 104 (.ld false 1 .cp (.k 103)) [0] 0,
 ⟨none,none,.st 5 (.t 6) (.k 102),[1,2],0⟩,
 .o 7 (.mv (.k 104))] true [6,7] [6])
 .ret)
 .skip)))
 (.seq (.reg [] [.o 105 (.ld true 5 .tk (.k 13)),
 .s (.st 5 (.t 6) (.k 105)),
 .o 7 (.mv (.c (.i .i64 0)))] false [6,7] [6])
 .ret))))))))))))⟩

def F_c_ref01_Whole : F := ⟨2,[.inr (4,true,2),.inl 5],
 (.seq (.reg [] [.o 2 (.bx (.k 0)),
 .o 4 (.al ([.s ⟨#[]⟩,.i .i64 0])),
 .o 5 (.mv (.c (.i .u64 0)))] false [1,2,4] [2,4])
 (.seq (.reg [] [.o 11 (.ld true 2 .cp (.k 2)),
 .o 12 (.mv (.k 1)),
 .o 13 (.call n_c_ref01_Bytes [.k 11,.k 12]),
 .o 10 (.mv (.k 13)),
 .o 14 (.ex false 0 10),
 .o 15 (.ex false 1 10),
 .o 6 (.al ([.s ⟨#[]⟩,.i .i64 0])),
 .s (.st 2 (.t 6) (.k 14)),
 .o 7 (.mv (.k 15))] false [4,6,7] [4,6])
 (.seq (.reg [] [.o 8 (.mv (.c (.i .u64 0)))] false [4,6,7,8] [4,6])
 (.seq (.seq (.reg [] [.o 16 (.mv (.t 7)),
 .o 17 (.len true (.k 16)),
 .o 18 (.bin .sub (.k 17) (.c (.i .i64 1))),
 .o 9 (.mv (.k 18))] false [4,6,7,8,9] [4,6])
 (.blk 0 (.loop (.seq (.seq (.reg [] [.o 19 (.mv (.t 9)),
 .o 20 (.bin .geq (.k 19) (.c (.i .i64 0)))] false [4,6,7,8,9,20] [4,6])
 (.cond 20 .skip
 (.exit 0)))
 (.seq (.blk 1 (.reg [] [.o 23 (.mv (.k 8)),
 .o 24 (.bin .mul (.k 23) (.c (.i .u64 256))),
 .o 25 (.mv (.t 7)),
 .o 26 (.mv (.t 9)),
 .o 27 (.ixs (.k 25) (.k 26)),
 .o 28 (.cv (.int .u64) (.k 27)),
 .o 29 (.bin .add (.k 24) (.k 28)),
 .o 8 (.mv (.k 29))] false [4,6,7,8,9] [4,6]))
 (.reg [] [.o 21 (.mv (.k 9)),
 .o 22 (.bin .sub (.k 21) (.c (.i .i64 1))),
 .o 9 (.mv (.k 22))] false [4,6,7,8,9] [4,6]))))))
 (.seq (.reg [] [.o 30 (.ld true 2 .cp (.k 6)),
 .o 31 (.mv (.k 8)),
 .s (.st 2 (.t 4) (.k 30)),
 .o 5 (.mv (.k 31))] false [4,5] [4])
 .ret)))))⟩

def F_c_ref21_third : F := ⟨2,[.inr (4,true,5),.inl 5],
 (.seq (.reg [] [.o 3 (.bx (.k 1)),
 .o 4 (.al ([.i .i64 0,.i .i64 0,.i .u64 0,.l .o 1 [],.l .o 1 []])),
 .o 5 (.mv (.c (.i .i64 0)))] false [0,3,4] [3,4])
 (.seq (.reg [] [.o 20 (.ld true 2 .cp (.k 3)),
 .o 21 (.call n_c_ref01_Whole [.k 20,.c (.i .i64 1)]),
 .o 19 (.mv (.k 21)),
 .o 22 (.ex false 0 19),
 .o 23 (.ex false 1 19),
 .o 6 (.al ([.s ⟨#[]⟩,.i .i64 0])),
 .s (.st 2 (.t 6) (.k 22)),
 .o 7 (.mv (.k 23))] false [0,4,6,7] [4,6])
 (.seq (.seq (.reg [] [.o 24 (.fa 1 (.t 6)),
 .o 25 (.ld false 1 .cp (.k 24)),
 .o 26 (.bin .eql (.k 25) (.c (.i .i64 0))),
 .o 27 (.mv (.k 26)),
 .c 27 true 28 (.mv (.k 7)),
 .c 27 true 29 (.bin .neq (.k 28) (.c (.i .u64 2))),
 .o 30 (.pick (.k 27) (.k 29) (.c (.b false)))] false [0,4,6,30] [4,6])
 (.cond 30 (.seq (.reg [] [.o 31 (.bd ([.i .i64 0,.i .i64 0,.i .u64 0,.l .o 1 [],.l .o 1 []]) []),
 .s (.st 5 (.t 4) (.k 31)),
 .o 5 (.mv (.c (.i .i64 2)))] false [4,5] [4])
 .ret)
 .skip))
 (.seq (.reg [] [.z 32 (.bs 1 0 (.i .i64 0) []) 1,
 .o 8 (.mv (.k 32))] false [0,4,6,8] [4,6])
 (.seq (.seq (.reg [] [.o 9 (.mv (.c (.i .i64 0)))] false [0,4,6,8,9] [4,6])
 (.blk 0 (.loop (.seq (.seq (.reg [] [.o 33 (.mv (.t 9)),
 .o 34 (.bin .lss (.k 33) (.c (.i .i64 2)))] false [0,4,6,8,9,34] [4,6])
 (.cond 34 .skip
 (.exit 0)))
 (.seq (.blk 1 (.seq (.reg [] [.o 38 (.ld true 2 .cp (.t 6)),
 .o 39 (.call n_c_ref01_Whole [.k 38,.c (.i .i64 1)]),
 .o 37 (.mv (.k 39)),
 .o 40 (.ex false 0 37),
 .o 41 (.ex false 1 37),
 .o 10 (.al ([.s ⟨#[]⟩,.i .i64 0])),
 .s (.st 2 (.t 10) (.k 40)),
 .o 11 (.mv (.k 41))] false [0,4,6,8,9,10,11] [4,6,10])
 (.seq (.reg [] [.o 43 (.ld true 2 .cp (.k 10)),
 .o 44 (.call n_c_ref01_Whole [.k 43,.c (.i .i64 4)]),
 .o 42 (.mv (.k 44)),
 .o 45 (.ex false 0 42),
 .o 46 (.ex false 1 42),
 .o 12 (.al ([.s ⟨#[]⟩,.i .i64 0])),
 .s (.st 2 (.t 12) (.k 45)),
 .o 13 (.mv (.k 46))] false [0,4,6,8,9,11,12,13] [4,6,12])
 (.seq (.reg [] [.o 47 (.ld true 2 .cp (.k 12)),
 .s (.st 2 (.t 6) (.k 47))] false [0,4,6,8,9,11,13] [4,6])
 (.seq (.seq (.reg [] [.o 48 (.fa 1 (.t 6)),
 .o 49 (.ld false 1 .cp (.k 48)),
 .o 50 (.bin .eql (.k 49) (.c (.i .i64 0))),
 .o 51 (.mv (.k 50)),
 .c 51 true 52 (.mv (.k 11)),
 .c 51 true 53 (.cv (.int .i64) (.k 52)),
 .c 51 true 54 (.mv (.t 9)),
 .c 51 true 55 (.bin .add (.k 54) (.c (.i .i64 1))),
 .c 51 true 56 (.bin .neq (.k 53) (.k 55)),
 .o 57 (.pick (.k 51) (.k 56) (.c (.b false)))] false [0,4,6,8,9,13,57] [4,6])
 (.cond 57 (.seq (.reg [] [.o 58 (.bd ([.i .i64 0,.i .i64 0,.i .u64 0,.l .o 1 [],.l .o 1 []]) []),
 .s (.st 5 (.t 4) (.k 58)),
 .o 5 (.mv (.c (.i .i64 2)))] false [4,5] [4])
 .ret)
 .skip))
 (.reg [] [.o 59 (.mv (.k 8)),
 .o 60 (.mv (.k 13)),
 .o 61 (.cv (.int .i64) (.k 60)),
 .o 62 (.bs 1 1 (.i .i64 0) [(0,.k 61)]),
 .z 63 (.app 1 8 (.k 59) (.k 62)) 1,
 .o 8 (.mv (.k 63))] false [0,4,6,8,9] [4,6]))))))
 (.reg [] [.o 35 (.mv (.k 9)),
 .o 36 (.bin .add (.k 35) (.c (.i .i64 1))),
 .o 9 (.mv (.k 36))] false [0,4,6,8,9] [4,6]))))))
 (.seq (.reg [] [.o 65 (.ld true 2 .cp (.k 6)),
 .u 66 (.mv (.t 8)) [0] 0,
 .u 67 (.ia 1 none (.k 66) (.c (.i .i64 0))) [0] 0,
 .u 68 (.ld false 1 .cp (.k 67)) [0] 0,
 .o 69 (.call n_c_ref01_Bytes [.k 65,.k 68]),
 .o 64 (.mv (.k 69)),
 .o 70 (.ex false 0 64),
 .u 71 (.ex false 1 64) [6] 0,
 .u 14 (.al ([.s ⟨#[]⟩,.i .i64 0])) [0,1,2,3,4,5,6,7] 0,
 ⟨none,none,.st 2 (.t 14) (.k 70),[7],0⟩,
 .o 15 (.mv (.k 71))] true [0,4,8,14,15] [4,14])
 (.seq (.reg [] [.o 73 (.ld true 2 .cp (.k 14)),
 .u 74 (.mv (.k 8)) [0] 0,
 .u 75 (.ia 1 none (.k 74) (.c (.i .i64 1))) [0] 0,
 .u 76 (.ld false 1 .cp (.k 75)) [0] 0,
 .o 77 (.call n_c_ref01_Bytes [.k 73,.k 76]),
 .o 72 (.mv (.k 77)),
 .o 78 (.ex false 0 72),
 .u 79 (.ex false 1 72) [6] 0,
 .u 16 (.al ([.s ⟨#[]⟩,.i .i64 0])) [0,1,2,3,4,5,6,7] 0,
 ⟨none,none,.st 2 (.t 16) (.k 78),[7],0⟩,
 .o 17 (.mv (.k 79))] true [0,4,15,16,17] [4,16])
 (.seq (.seq (.reg [] [.o 80 (.ld true 2 .cp (.k 16)),
 .o 81 (.call n_c_ref21_end [.k 80]),
 .o 18 (.mv (.k 81))] false [0,4,15,17,18] [4])
 (.seq (.reg [] [.o 82 (.mv (.t 18)),
 .o 83 (.bin .neq (.k 82) (.c (.i .i64 0)))] false [0,4,15,17,18,83] [4])
 (.cond 83 (.seq (.reg [] [.o 84 (.bd ([.i .i64 0,.i .i64 0,.i .u64 0,.l .o 1 [],.l .o 1 []]) []),
 .o 85 (.mv (.k 18)),
 .s (.st 5 (.t 4) (.k 84)),
 .o 5 (.mv (.k 85))] false [4,5] [4])
 .ret)
 .skip)))
 (.seq (.reg [] [.o 86 (.mv (.k 0)),
 .o 87 (.mv (.k 15)),
 .o 88 (.mv (.k 17)),
 .o 89 (.call n_c_ref19_Read [.k 86,.k 87,.k 88]),
 .o 90 (.ex false 0 89),
 .o 91 (.ex false 1 89),
 .s (.st 5 (.t 4) (.k 90)),
 .o 5 (.mv (.k 91))] false [4,5] [4])
 .ret)))))))))⟩

def F_c_ref01_Number : F := ⟨2,[.inr (4,true,2),.inl 5],
 (.seq (.reg [] [.o 2 (.bx (.k 0)),
 .o 4 (.al ([.s ⟨#[]⟩,.i .i64 0])),
 .o 5 (.mv (.c (.i .u64 0)))] false [1,2,4] [2,4])
 (.seq (.seq (.reg [] [.o 9 (.fa 1 (.t 2)),
 .o 10 (.ld false 1 .cp (.k 9)),
 .o 11 (.bin .neq (.k 10) (.c (.i .i64 0)))] false [1,2,4,11] [2,4])
 (.cond 11 (.seq (.reg [] [.o 12 (.ld true 2 .cp (.k 2)),
 .s (.st 2 (.t 4) (.k 12)),
 .o 5 (.mv (.c (.i .u64 0)))] false [4,5] [4])
 .ret)
 .skip))
 (.seq (.reg [] [.o 6 (.mv (.c (.i .i64 0)))] false [1,2,4,6] [2,4])
 (.seq (.blk 0 (.loop (.seq (.seq (.reg [] [.o 13 (.mv (.t 6)),
 .o 14 (.fa 0 (.t 2)),
 .o 15 (.ld false 1 .cp (.k 14)),
 .o 16 (.len true (.k 15)),
 .o 17 (.bin .lss (.k 13) (.k 16)),
 .o 18 (.mv (.k 17)),
 .c 18 true 19 (.mv (.t 6)),
 .c 18 true 20 (.bin .lss (.k 19) (.c (.i .i64 9))),
 .o 21 (.pick (.k 18) (.k 20) (.c (.b false))),
 .o 22 (.mv (.k 21)),
 .c 22 true 23 (.fa 0 (.t 2)),
 .c 22 true 24 (.ld false 1 .cp (.k 23)),
 .c 22 true 25 (.mv (.t 6)),
 .c 22 true 26 (.ixs (.k 24) (.k 25)),
 .c 22 true 27 (.bin .geq (.k 26) (.c (.i .u8 128))),
 .o 28 (.pick (.k 22) (.k 27) (.c (.b false)))] false [1,2,4,6,28] [2,4])
 (.cond 28 .skip
 (.exit 0)))
 (.blk 1 (.reg [] [.o 29 (.mv (.k 6)),
 .o 30 (.bin .add (.k 29) (.c (.i .i64 1))),
 .o 6 (.mv (.k 30))] false [1,2,4,6] [2,4])))))
 (.seq (.seq (.reg [] [.o 31 (.mv (.t 6)),
 .o 32 (.fa 0 (.t 2)),
 .o 33 (.ld false 1 .cp (.k 32)),
 .o 34 (.len true (.k 33)),
 .o 35 (.bin .eql (.k 31) (.k 34))] false [1,2,4,6,35] [2,4])
 (.cond 35 (.seq (.reg [] [.o 36 (.call n_c_ref01_fail [.c (.i .i64 1)]),
 .s (.st 2 (.t 4) (.k 36)),
 .o 5 (.mv (.c (.i .u64 0)))] false [4,5] [4])
 .ret)
 .skip))
 (.seq (.seq (.reg [] [.o 37 (.mv (.t 6)),
 .o 38 (.bin .eql (.k 37) (.c (.i .i64 9))),
 .o 39 (.mv (.k 38)),
 .c 39 true 40 (.fa 0 (.t 2)),
 .c 39 true 41 (.ld false 1 .cp (.k 40)),
 .c 39 true 42 (.ixs (.k 41) (.c (.i .i64 9))),
 .c 39 true 43 (.bin .gtr (.k 42) (.c (.i .u8 1))),
 .o 44 (.pick (.k 39) (.k 43) (.c (.b false)))] false [1,2,4,6,44] [2,4])
 (.cond 44 (.seq (.reg [] [.o 45 (.call n_c_ref01_fail [.c (.i .i64 2)]),
 .s (.st 2 (.t 4) (.k 45)),
 .o 5 (.mv (.c (.i .u64 0)))] false [4,5] [4])
 .ret)
 .skip))
 (.seq (.seq (.reg [] [.o 46 (.mv (.t 6)),
 .o 47 (.bin .gtr (.k 46) (.c (.i .i64 0))),
 .o 48 (.mv (.k 47)),
 .c 48 true 49 (.fa 0 (.t 2)),
 .c 48 true 50 (.ld false 1 .cp (.k 49)),
 .c 48 true 51 (.mv (.t 6)),
 .c 48 true 52 (.ixs (.k 50) (.k 51)),
 .c 48 true 53 (.bin .eql (.k 52) (.c (.i .u8 0))),
 .o 54 (.pick (.k 48) (.k 53) (.c (.b false)))] false [1,2,4,6,54] [2,4])
 (.cond 54 (.seq (.reg [] [.o 55 (.call n_c_ref01_fail [.c (.i .i64 2)]),
 .s (.st 2 (.t 4) (.k 55)),
 .o 5 (.mv (.c (.i .u64 0)))] false [4,5] [4])
 .ret)
 .skip))
 (.seq (.reg [] [.o 7 (.mv (.c (.i .u64 0)))] false [1,2,4,6,7] [2,4])
 (.seq (.seq (.reg [] [.o 56 (.mv (.t 6)),
 .o 8 (.mv (.k 56))] false [1,2,4,6,7,8] [2,4])
 (.blk 2 (.loop (.seq (.seq (.reg [] [.o 57 (.mv (.t 8)),
 .o 58 (.bin .geq (.k 57) (.c (.i .i64 0)))] false [1,2,4,6,7,8,58] [2,4])
 (.cond 58 .skip
 (.exit 2)))
 (.seq (.blk 3 (.reg [] [.o 61 (.mv (.k 7)),
 .o 62 (.bin .mul (.k 61) (.c (.i .u64 128))),
 .o 63 (.fa 0 (.t 2)),
 .o 64 (.ld false 1 .cp (.k 63)),
 .o 65 (.mv (.t 8)),
 .o 66 (.ixs (.k 64) (.k 65)),
 .o 67 (.bin .rem (.k 66) (.c (.i .u8 128))),
 .o 68 (.cv (.int .u64) (.k 67)),
 .o 69 (.bin .add (.k 62) (.k 68)),
 .o 7 (.mv (.k 69))] false [1,2,4,6,7,8] [2,4]))
 (.reg [] [.o 59 (.mv (.k 8)),
 .o 60 (.bin .sub (.k 59) (.c (.i .i64 1))),
 .o 8 (.mv (.k 60))] false [1,2,4,6,7,8] [2,4]))))))
 (.seq (.seq (.reg [] [.o 70 (.mv (.t 7)),
 .o 71 (.mv (.k 1)),
 .o 72 (.bin .gtr (.k 70) (.k 71))] false [2,4,6,7,72] [2,4])
 (.cond 72 (.seq (.reg [] [.o 73 (.call n_c_ref01_fail [.c (.i .i64 3)]),
 .s (.st 2 (.t 4) (.k 73)),
 .o 5 (.mv (.c (.i .u64 0)))] false [4,5] [4])
 .ret)
 .skip))
 (.seq (.reg [] [.o 74 (.fa 0 (.k 2)),
 .o 75 (.ld false 1 .cp (.k 74)),
 .o 76 (.mv (.k 6)),
 .o 77 (.bin .add (.k 76) (.c (.i .i64 1))),
 .o 78 (.ss (.k 75) (some (.k 77)) none),
 .o 79 (.bd ([.s ⟨#[]⟩,.i .i64 0]) [(0,1,.k 78),(1,1,.c (.i .i64 0))]),
 .o 80 (.mv (.k 7)),
 .s (.st 2 (.t 4) (.k 79)),
 .o 5 (.mv (.k 80))] false [4,5] [4])
 .ret)))))))))))⟩

def F_c_ref06_Legal : F := ⟨2,[.inl 4],
 (.seq (.reg [] [.o 4 (.mv (.c (.i .i64 0)))] false [0,1] [])
 (.seq (.seq (.reg [] [.o 5 (.mv (.t 0)),
 .o 6 (.bin .lss (.k 5) (.c (.i .i64 1))),
 .o 7 (.mv (.k 6)),
 .c 7 false 8 (.mv (.t 0)),
 .c 7 false 9 (.bin .gtr (.k 8) (.c (.i .i64 4))),
 .o 10 (.pick (.k 7) (.c (.b true)) (.k 9))] false [0,1,10] [])
 (.cond 10 (.seq (.reg [] [.o 4 (.mv (.c (.i .i64 6)))] false [4] [])
 .ret)
 .skip))
 (.seq (.seq (.reg [] [.o 11 (.mv (.t 1)),
 .o 12 (.bin .lss (.k 11) (.c (.i .i64 1))),
 .o 13 (.mv (.k 12)),
 .c 13 false 14 (.mv (.t 1)),
 .c 13 false 15 (.bin .gtr (.k 14) (.c (.i .i64 16))),
 .o 16 (.pick (.k 13) (.c (.b true)) (.k 15))] false [0,1,16] [])
 (.cond 16 (.seq (.reg [] [.o 4 (.mv (.c (.i .i64 5)))] false [4] [])
 .ret)
 .skip))
 (.seq (.seq (.reg [] [.o 17 (.mv (.k 0)),
 .o 18 (.bin .eql (.k 17) (.c (.i .i64 4))),
 .o 19 (.mv (.k 18)),
 .c 19 true 20 (.mv (.t 1)),
 .c 19 true 21 (.bin .neq (.k 20) (.c (.i .i64 1))),
 .o 22 (.pick (.k 19) (.k 21) (.c (.b false))),
 .o 23 (.mv (.k 22)),
 .c 23 true 24 (.mv (.t 1)),
 .c 23 true 25 (.bin .neq (.k 24) (.c (.i .i64 2))),
 .o 26 (.pick (.k 23) (.k 25) (.c (.b false))),
 .o 27 (.mv (.k 26)),
 .c 27 true 28 (.mv (.t 1)),
 .c 27 true 29 (.bin .neq (.k 28) (.c (.i .i64 4))),
 .o 30 (.pick (.k 27) (.k 29) (.c (.b false))),
 .o 31 (.mv (.k 30)),
 .c 31 true 32 (.mv (.t 1)),
 .c 31 true 33 (.bin .neq (.k 32) (.c (.i .i64 8))),
 .o 34 (.pick (.k 31) (.k 33) (.c (.b false))),
 .o 35 (.mv (.k 34)),
 .c 35 true 36 (.mv (.k 1)),
 .c 35 true 37 (.bin .neq (.k 36) (.c (.i .i64 16))),
 .o 38 (.pick (.k 35) (.k 37) (.c (.b false)))] false [38] [])
 (.cond 38 (.seq (.reg [] [.o 4 (.mv (.c (.i .i64 5)))] false [4] [])
 .ret)
 .skip))
 (.seq (.reg [] [.o 4 (.mv (.c (.i .i64 0)))] false [4] [])
 .ret)))))⟩

def F_c_ref21_first : F := ⟨2,[.inr (4,true,5),.inl 5],
 (.seq (.reg [] [.o 2 (.bx (.k 0)),
 .o 3 (.bx (.k 1)),
 .o 4 (.al ([.i .i64 0,.i .i64 0,.i .u64 0,.l .o 1 [],.l .o 1 []])),
 .o 5 (.mv (.c (.i .i64 0)))] false [2,3,4] [2,3,4])
 (.seq (.seq (.reg [] [.o 22 (.fa 0 (.t 2)),
 .o 23 (.ld false 1 .cp (.k 22)),
 .o 24 (.bin .gtr (.k 23) (.c (.i .i64 2)))] false [2,3,4,24] [2,3,4])
 (.cond 24 (.seq (.reg [] [.o 26 (.ld true 2 .cp (.k 3)),
 .o 27 (.call n_c_ref01_Whole [.k 26,.c (.i .i64 8)]),
 .o 25 (.mv (.k 27)),
 .o 28 (.ex false 0 25),
 .o 29 (.ex false 1 25),
 .o 6 (.al ([.s ⟨#[]⟩,.i .i64 0])),
 .s (.st 2 (.t 6) (.k 28)),
 .o 7 (.mv (.k 29))] false [2,4,6,7] [2,4,6])
 (.seq (.seq (.reg [] [.o 30 (.fa 1 (.t 6)),
 .o 31 (.ld false 1 .cp (.k 30)),
 .o 32 (.bin .eql (.k 31) (.c (.i .i64 0))),
 .o 33 (.mv (.k 32)),
 .c 33 true 34 (.mv (.t 7)),
 .c 33 true 35 (.bin .gtr (.k 34) (.c (.i .u64 1125899906842624))),
 .o 36 (.pick (.k 33) (.k 35) (.c (.b false)))] false [2,4,6,7,36] [2,4,6])
 (.cond 36 (.seq (.reg [] [.o 37 (.ld true 5 .tk (.k 2)),
 .s (.st 5 (.t 4) (.k 37)),
 .o 5 (.mv (.c (.i .i64 4)))] false [4,5] [4])
 .ret)
 .skip))
 (.seq (.seq (.reg [] [.o 38 (.ld true 2 .cp (.k 6)),
 .o 39 (.call n_c_ref21_end [.k 38]),
 .o 8 (.mv (.k 39))] false [2,4,7,8] [2,4])
 (.seq (.reg [] [.o 40 (.mv (.t 8)),
 .o 41 (.bin .neq (.k 40) (.c (.i .i64 0)))] false [2,4,7,8,41] [2,4])
 (.cond 41 (.seq (.reg [] [.o 42 (.ld true 5 .tk (.k 2)),
 .o 43 (.mv (.k 8)),
 .s (.st 5 (.t 4) (.k 42)),
 .o 5 (.mv (.k 43))] false [4,5] [4])
 .ret)
 .skip)))
 (.seq (.reg [] [.o 44 (.mv (.t 7)),
 .o 45 (.cv (.int .i64) (.k 44)),
 .z 46 (.bs 1 1 (.i .i64 0) [(0,.k 45)]) 1,
 .o 47 (.fa 4 (.t 2)),
 .s (.st 1 (.k 47) (.k 46))] false [2,4,7] [2,4])
 (.seq (.seq (.reg [] [.o 48 (.fa 0 (.t 2)),
 .o 49 (.ld false 1 .cp (.k 48)),
 .o 50 (.bin .eql (.k 49) (.c (.i .i64 3)))] false [2,4,7,50] [2,4])
 (.cond 50 (.seq (.reg [] [.z 51 (.bs 1 0 (.i .i64 0) []) 1,
 .o 52 (.fa 4 (.t 2)),
 .s (.st 1 (.k 52) (.k 51))] false [2,4,7] [2,4])
 (.seq (.reg [] [.o 9 (.mv (.c (.i .i64 0)))] false [2,4,7,9] [2,4])
 (.blk 0 (.loop (.seq (.seq (.reg [] [.o 53 (.mv (.t 9)),
 .o 54 (.fa 1 (.t 2)),
 .o 55 (.ld false 1 .cp (.k 54)),
 .o 56 (.bin .lss (.k 53) (.k 55))] false [2,4,7,9,56] [2,4])
 (.cond 56 .skip
 (.exit 0)))
 (.seq (.blk 1 (.reg [] [.o 59 (.fa 4 (.t 2)),
 .o 60 (.ld false 1 .tk (.k 59)),
 .u 61 (.mv (.t 7)) [0,1] 0,
 .u 62 (.cv (.int .i64) (.k 61)) [0,1] 0,
 .u 63 (.fa 1 (.t 2)) [0,1,2,3] 0,
 .u 64 (.ld false 1 .cp (.k 63)) [0,1,2,3] 0,
 .u 65 (.bin .add (.k 62) (.k 64)) [0,1] 0,
 .u 66 (.bin .sub (.k 65) (.c (.i .i64 1))) [0,1] 0,
 .u 67 (.mv (.t 9)) [0,1,2,3,4,5,6,7] 0,
 .u 68 (.bin .sub (.k 66) (.k 67)) [0,1] 0,
 .u 69 (.fa 1 (.t 2)) [0,1,2,3,4,5,6,7,8,9] 0,
 .u 70 (.ld false 1 .cp (.k 69)) [0,1,2,3,4,5,6,7,8,9] 0,
 .u 71 (.bin .quo (.k 68) (.k 70)) [0,1] 0,
 .u 72 (.bs 1 1 (.i .i64 0) [(0,.k 71)]) [0,1] 0,
 .z 73 (.app 1 8 (.k 60) (.k 72)) 1,
 .o 74 (.fa 4 (.t 2)),
 .s (.st 1 (.k 74) (.k 73))] true [2,4,7,9] [2,4]))
 (.reg [] [.o 57 (.mv (.k 9)),
 .o 58 (.bin .add (.k 57) (.c (.i .i64 1))),
 .o 9 (.mv (.k 58))] false [2,4,7,9] [2,4])))))))
 .skip))
 (.seq (.reg [] [.o 75 (.ld true 5 .tk (.k 2)),
 .s (.st 5 (.t 4) (.k 75)),
 .o 5 (.mv (.c (.i .i64 0)))] false [4,5] [4])
 .ret))))))
 .skip))
 (.seq (.reg [] [.o 77 (.ld true 2 .cp (.k 3)),
 .o 78 (.call n_c_ref01_Whole [.k 77,.c (.i .i64 4)]),
 .o 76 (.mv (.k 78)),
 .o 79 (.ex false 0 76),
 .o 80 (.ex false 1 76),
 .o 10 (.al ([.s ⟨#[]⟩,.i .i64 0])),
 .s (.st 2 (.t 10) (.k 79)),
 .o 11 (.mv (.k 80))] false [2,4,10,11] [2,4,10])
 (.seq (.seq (.reg [] [.o 81 (.fa 1 (.t 10)),
 .o 82 (.ld false 1 .cp (.k 81)),
 .o 83 (.bin .eql (.k 82) (.c (.i .i64 0))),
 .o 84 (.mv (.k 83)),
 .c 84 true 85 (.mv (.t 11)),
 .c 84 true 86 (.bin .gtr (.k 85) (.c (.i .u64 1000))),
 .o 87 (.pick (.k 84) (.k 86) (.c (.b false)))] false [2,4,10,11,87] [2,4,10])
 (.cond 87 (.seq (.reg [] [.o 88 (.ld true 5 .tk (.k 2)),
 .s (.st 5 (.t 4) (.k 88)),
 .o 5 (.mv (.c (.i .i64 3)))] false [4,5] [4])
 .ret)
 .skip))
 (.seq (.reg [] [.z 89 (.bs 2 0 (.a ([.i .u64 0,.i .i64 0])) []) 1,
 .o 12 (.mv (.k 89))] false [2,4,10,11,12] [2,4,10])
 (.seq (.seq (.reg [] [.o 13 (.mv (.c (.i .u64 0)))] false [2,4,10,11,12,13] [2,4,10])
 (.blk 2 (.loop (.seq (.seq (.reg [] [.o 90 (.mv (.t 13)),
 .o 91 (.mv (.t 11)),
 .o 92 (.bin .lss (.k 90) (.k 91)),
 .o 93 (.mv (.k 92)),
 .c 93 true 94 (.fa 1 (.t 10)),
 .c 93 true 95 (.ld false 1 .cp (.k 94)),
 .c 93 true 96 (.bin .eql (.k 95) (.c (.i .i64 0))),
 .o 97 (.pick (.k 93) (.k 96) (.c (.b false)))] false [2,4,10,11,12,13,97] [2,4,10])
 (.cond 97 .skip
 (.exit 2)))
 (.seq (.blk 3 (.seq (.reg [] [.o 101 (.ld true 2 .cp (.t 10)),
 .o 102 (.call n_c_ref01_Whole [.k 101,.c (.i .i64 8)]),
 .o 100 (.mv (.k 102)),
 .o 103 (.ex false 0 100),
 .o 104 (.ex false 1 100),
 .o 14 (.al ([.s ⟨#[]⟩,.i .i64 0])),
 .s (.st 2 (.t 14) (.k 103)),
 .o 15 (.mv (.k 104))] false [2,4,10,11,12,13,14,15] [2,4,10,14])
 (.seq (.reg [] [.o 106 (.ld true 2 .cp (.k 14)),
 .o 107 (.call n_c_ref01_Whole [.k 106,.c (.i .i64 8)]),
 .o 105 (.mv (.k 107)),
 .o 108 (.ex false 0 105),
 .o 109 (.ex false 1 105),
 .o 16 (.al ([.s ⟨#[]⟩,.i .i64 0])),
 .s (.st 2 (.t 16) (.k 108)),
 .o 17 (.mv (.k 109))] false [2,4,10,11,12,13,15,16,17] [2,4,10,16])
 (.seq (.reg [] [.o 110 (.ld true 2 .cp (.k 16)),
 .s (.st 2 (.t 10) (.k 110))] false [2,4,10,11,12,13,15,17] [2,4,10])
 (.reg [] [.o 111 (.mv (.k 12)),
 .o 112 (.mv (.k 15)),
 .o 113 (.mv (.k 17)),
 .o 114 (.call n_c_ref21_signed [.k 113]),
 .o 115 (.call n_c_ref04_Make [.k 112,.k 114]),
 .o 116 (.bs 2 1 (.a ([.i .u64 0,.i .i64 0])) [(0,.k 115)]),
 .z 117 (.app 2 16 (.k 111) (.k 116)) 1,
 .o 12 (.mv (.k 117))] false [2,4,10,11,12,13] [2,4,10])))))
 (.reg [] [.o 98 (.mv (.k 13)),
 .o 99 (.bin .add (.k 98) (.c (.i .u64 1))),
 .o 13 (.mv (.k 99))] false [2,4,10,11,12,13] [2,4,10]))))))
 (.seq (.seq (.reg [] [.o 118 (.ld true 2 .cp (.k 10)),
 .o 119 (.call n_c_ref21_end [.k 118]),
 .o 18 (.mv (.k 119))] false [2,4,12,18] [2,4])
 (.seq (.reg [] [.o 120 (.mv (.t 18)),
 .o 121 (.bin .neq (.k 120) (.c (.i .i64 0)))] false [2,4,12,18,121] [2,4])
 (.cond 121 (.seq (.reg [] [.o 122 (.ld true 5 .tk (.k 2)),
 .o 123 (.mv (.k 18)),
 .s (.st 5 (.t 4) (.k 122)),
 .o 5 (.mv (.k 123))] false [4,5] [4])
 .ret)
 .skip)))
 (.seq (.seq (.reg [] [.o 124 (.fa 0 (.t 2)),
 .o 125 (.ld false 1 .cp (.k 124)),
 .o 126 (.bin .eql (.k 125) (.c (.i .i64 2)))] false [2,4,12,126] [2,4])
 (.cond 126 (.seq (.reg [] [.o 127 (.mv (.k 12)),
 .z 128 (.bs 1 1 (.l .o 2 []) [(0,.k 127)]) 1,
 .o 129 (.fa 3 (.t 2)),
 .s (.st 1 (.k 129) (.k 128))] false [2,4] [2,4])
 (.seq (.reg [] [.o 130 (.ld true 5 .tk (.k 2)),
 .s (.st 5 (.t 4) (.k 130)),
 .o 5 (.mv (.c (.i .i64 0)))] false [4,5] [4])
 .ret))
 .skip))
 (.seq (.seq (.reg [] [.o 131 (.mv (.t 12)),
 .o 132 (.len false (.k 131)),
 .o 133 (.fa 1 (.t 2)),
 .o 134 (.ld false 1 .cp (.k 133)),
 .o 135 (.bin .mul (.c (.i .i64 62)) (.k 134)),
 .o 136 (.bin .gtr (.k 132) (.k 135))] false [2,4,12,136] [2,4])
 (.cond 136 (.seq (.reg [] [.o 137 (.ld true 5 .tk (.k 2)),
 .s (.st 5 (.t 4) (.k 137)),
 .o 5 (.mv (.c (.i .i64 3)))] false [4,5] [4])
 .ret)
 .skip))
 (.seq (.reg [] [.z 138 (.mv (.k 12)) 2,
 .o 139 (.call n_c_ref04_Sorted [.k 138]),
 .o 12 (.mv (.k 139))] false [2,4,12] [2,4])
 (.seq (.seq (.reg [] [.o 19 (.mv (.c (.i .i64 0)))] false [2,4,12,19] [2,4])
 (.blk 4 (.loop (.seq (.seq (.reg [] [.o 140 (.mv (.t 19)),
 .o 141 (.fa 1 (.t 2)),
 .o 142 (.ld false 1 .cp (.k 141)),
 .o 143 (.bin .lss (.k 140) (.k 142))] false [2,4,12,19,143] [2,4])
 (.cond 143 .skip
 (.exit 4)))
 (.seq (.blk 5 (.seq (.reg [] [.z 146 (.bs 2 0 (.a ([.i .u64 0,.i .i64 0])) []) 1,
 .o 20 (.mv (.k 146))] false [2,4,12,19,20] [2,4])
 (.seq (.seq (.reg [] [.o 147 (.mv (.t 19)),
 .o 21 (.mv (.k 147))] false [2,4,12,19,20,21] [2,4])
 (.blk 6 (.loop (.seq (.seq (.reg [] [.o 148 (.mv (.t 21)),
 .o 149 (.mv (.t 12)),
 .o 150 (.len false (.k 149)),
 .o 151 (.bin .lss (.k 148) (.k 150))] false [2,4,12,19,20,21,151] [2,4])
 (.cond 151 .skip
 (.exit 6)))
 (.seq (.blk 7 (.reg [] [.o 156 (.mv (.k 20)),
 .o 157 (.mv (.t 12)),
 .o 158 (.mv (.t 21)),
 .o 159 (.ia 2 none (.k 157) (.k 158)),
 .o 160 (.ld true 2 .cp (.k 159)),
 .o 161 (.bs 2 1 (.a ([.i .u64 0,.i .i64 0])) [(0,.k 160)]),
 .z 162 (.app 2 16 (.k 156) (.k 161)) 1,
 .o 20 (.mv (.k 162))] false [2,4,12,19,20,21] [2,4]))
 (.reg [] [.o 152 (.mv (.k 21)),
 .o 153 (.fa 1 (.t 2)),
 .o 154 (.ld false 1 .cp (.k 153)),
 .o 155 (.bin .add (.k 152) (.k 154)),
 .o 21 (.mv (.k 155))] false [2,4,12,19,20,21] [2,4]))))))
 (.reg [] [.o 163 (.fa 3 (.t 2)),
 .o 164 (.ld false 1 .tk (.k 163)),
 .o 165 (.mv (.k 20)),
 .o 166 (.bs 1 1 (.l .o 2 []) [(0,.k 165)]),
 .z 167 (.app 1 24 (.k 164) (.k 166)) 1,
 .o 168 (.fa 3 (.t 2)),
 .s (.st 1 (.k 168) (.k 167))] false [2,4,12,19] [2,4]))))
 (.reg [] [.o 144 (.mv (.k 19)),
 .o 145 (.bin .add (.k 144) (.c (.i .i64 1))),
 .o 19 (.mv (.k 145))] false [2,4,12,19] [2,4]))))))
 (.seq (.reg [] [.o 169 (.ld true 5 .tk (.k 2)),
 .s (.st 5 (.t 4) (.k 169)),
 .o 5 (.mv (.c (.i .i64 0)))] false [4,5] [4])
 .ret))))))))))))⟩

def F_c_ref21_second : F := ⟨2,[.inr (4,true,5),.inl 5],
 (.seq (.reg [] [.o 2 (.bx (.k 0)),
 .o 3 (.bx (.k 1)),
 .o 4 (.al ([.i .i64 0,.i .i64 0,.i .u64 0,.l .o 1 [],.l .o 1 []])),
 .o 5 (.mv (.c (.i .i64 0)))] false [2,3,4] [2,3,4])
 (.seq (.reg [] [.o 21 (.fa 1 (.t 2)),
 .o 22 (.ld false 1 .cp (.k 21)),
 .z 23 (.bs 1 5 (.i .i64 0) [(0,.c (.i .i64 0)),(1,.k 22),(2,.c (.i .i64 1)),(3,.c (.i .i64 0)),(4,.c (.i .i64 0))]) 1,
 .o 24 (.fa 0 (.t 2)),
 .o 25 (.ld false 1 .cp (.k 24)),
 .o 26 (.ia 1 none (.k 23) (.k 25)),
 .o 27 (.ld false 1 .cp (.k 26)),
 .o 6 (.mv (.k 27))] false [2,3,4,6] [2,3,4])
 (.seq (.reg [] [.o 28 (.fa 1 (.t 2)),
 .o 29 (.ld false 1 .cp (.k 28)),
 .z 30 (.bs 1 5 (.i .i64 0) [(0,.c (.i .i64 0)),(1,.c (.i .i64 0)),(2,.c (.i .i64 0)),(3,.k 29),(4,.c (.i .i64 1))]) 1,
 .o 31 (.fa 0 (.t 2)),
 .o 32 (.ld false 1 .cp (.k 31)),
 .o 33 (.ia 1 none (.k 30) (.k 32)),
 .o 34 (.ld false 1 .cp (.k 33)),
 .o 7 (.mv (.k 34))] false [2,3,4,6,7] [2,3,4])
 (.seq (.reg [] [.z 35 (.bs 1 5 (.i .u64 0) [(0,.c (.i .u64 0)),(1,.c (.i .u64 62)),(2,.c (.i .u64 1000)),(3,.c (.i .u64 0)),(4,.c (.i .u64 0))]) 1,
 .o 36 (.fa 0 (.t 2)),
 .o 37 (.ld false 1 .cp (.k 36)),
 .o 38 (.ia 1 none (.k 35) (.k 37)),
 .o 39 (.ld false 1 .cp (.k 38)),
 .o 8 (.mv (.k 39))] false [2,3,4,6,7,8] [2,3,4])
 (.seq (.seq (.reg [] [.o 9 (.mv (.c (.i .i64 0)))] false [2,3,4,6,7,8,9] [2,3,4])
 (.blk 0 (.loop (.seq (.seq (.reg [] [.o 40 (.mv (.t 9)),
 .o 41 (.mv (.t 6)),
 .o 42 (.bin .lss (.k 40) (.k 41))] false [2,3,4,6,7,8,9,42] [2,3,4])
 (.cond 42 .skip
 (.exit 0)))
 (.seq (.blk 1 (.seq (.reg [] [.o 46 (.ld true 2 .cp (.t 3)),
 .o 47 (.mv (.t 8)),
 .o 48 (.call n_c_ref01_Number [.k 46,.k 47]),
 .o 45 (.mv (.k 48)),
 .o 49 (.ex false 0 45),
 .o 50 (.ex false 1 45),
 .o 10 (.al ([.s ⟨#[]⟩,.i .i64 0])),
 .s (.st 2 (.t 10) (.k 49)),
 .o 11 (.mv (.k 50))] false [2,3,4,6,7,8,9,10,11] [2,3,4,10])
 (.seq (.reg [] [.z 51 (.bs 2 0 (.a ([.i .u64 0,.i .i64 0])) []) 1,
 .o 12 (.mv (.k 51))] false [2,3,4,6,7,8,9,10,11,12] [2,3,4,10])
 (.seq (.seq (.reg [] [.o 13 (.mv (.c (.i .u64 0)))] false [2,3,4,6,7,8,9,10,11,12,13] [2,3,4,10])
 (.blk 2 (.loop (.seq (.seq (.reg [] [.o 52 (.mv (.t 13)),
 .o 53 (.mv (.t 11)),
 .o 54 (.bin .lss (.k 52) (.k 53)),
 .o 55 (.mv (.k 54)),
 .c 55 true 56 (.fa 1 (.t 10)),
 .c 55 true 57 (.ld false 1 .cp (.k 56)),
 .c 55 true 58 (.bin .eql (.k 57) (.c (.i .i64 0))),
 .o 59 (.pick (.k 55) (.k 58) (.c (.b false)))] false [2,3,4,6,7,8,9,10,11,12,13,59] [2,3,4,10])
 (.cond 59 .skip
 (.exit 2)))
 (.seq (.blk 3 (.seq (.reg [] [.o 63 (.ld true 2 .cp (.t 10)),
 .o 64 (.call n_c_ref01_Whole [.k 63,.c (.i .i64 8)]),
 .o 62 (.mv (.k 64)),
 .o 65 (.ex false 0 62),
 .o 66 (.ex false 1 62),
 .o 14 (.al ([.s ⟨#[]⟩,.i .i64 0])),
 .s (.st 2 (.t 14) (.k 65)),
 .o 15 (.mv (.k 66))] false [2,3,4,6,7,8,9,10,11,12,13,14,15] [2,3,4,10,14])
 (.seq (.reg [] [.o 68 (.ld true 2 .cp (.k 14)),
 .o 69 (.call n_c_ref01_Signed [.k 68]),
 .o 67 (.mv (.k 69)),
 .o 70 (.ex false 0 67),
 .o 71 (.ex false 1 67),
 .o 16 (.al ([.s ⟨#[]⟩,.i .i64 0])),
 .s (.st 2 (.t 16) (.k 70)),
 .o 17 (.mv (.k 71))] false [2,3,4,6,7,8,9,10,11,12,13,15,16,17] [2,3,4,10,16])
 (.seq (.reg [] [.o 72 (.ld true 2 .cp (.k 16)),
 .s (.st 2 (.t 10) (.k 72))] false [2,3,4,6,7,8,9,10,11,12,13,15,17] [2,3,4,10])
 (.reg [] [.o 73 (.mv (.k 12)),
 .o 74 (.mv (.k 15)),
 .o 75 (.mv (.k 17)),
 .o 76 (.call n_c_ref04_Make [.k 74,.k 75]),
 .o 77 (.bs 2 1 (.a ([.i .u64 0,.i .i64 0])) [(0,.k 76)]),
 .z 78 (.app 2 16 (.k 73) (.k 77)) 1,
 .o 12 (.mv (.k 78))] false [2,3,4,6,7,8,9,10,11,12,13] [2,3,4,10])))))
 (.reg [] [.o 60 (.mv (.k 13)),
 .o 61 (.bin .add (.k 60) (.c (.i .u64 1))),
 .o 13 (.mv (.k 61))] false [2,3,4,6,7,8,9,10,11,12,13] [2,3,4,10]))))))
 (.seq (.reg [] [.o 79 (.ld true 2 .cp (.k 10)),
 .s (.st 2 (.t 3) (.k 79))] false [2,3,4,6,7,8,9,12] [2,3,4])
 (.reg [] [.o 80 (.fa 3 (.t 2)),
 .o 81 (.ld false 1 .tk (.k 80)),
 .o 82 (.mv (.k 12)),
 .o 83 (.bs 1 1 (.l .o 2 []) [(0,.k 82)]),
 .z 84 (.app 1 24 (.k 81) (.k 83)) 1,
 .o 85 (.fa 3 (.t 2)),
 .s (.st 1 (.k 85) (.k 84))] false [2,3,4,6,7,8,9] [2,3,4]))))))
 (.reg [] [.o 43 (.mv (.k 9)),
 .o 44 (.bin .add (.k 43) (.c (.i .i64 1))),
 .o 9 (.mv (.k 44))] false [2,3,4,6,7,8,9] [2,3,4]))))))
 (.seq (.seq (.reg [] [.o 18 (.mv (.c (.i .i64 0)))] false [2,3,4,7,18] [2,3,4])
 (.blk 4 (.loop (.seq (.seq (.reg [] [.o 86 (.mv (.t 18)),
 .o 87 (.mv (.t 7)),
 .o 88 (.bin .lss (.k 86) (.k 87))] false [2,3,4,7,18,88] [2,3,4])
 (.cond 88 .skip
 (.exit 4)))
 (.seq (.blk 5 (.seq (.reg [] [.o 92 (.ld true 2 .cp (.t 3)),
 .o 93 (.call n_c_ref01_Number [.k 92,.c (.i .u64 1125899906842624)]),
 .o 91 (.mv (.k 93)),
 .o 94 (.ex false 0 91),
 .o 95 (.ex false 1 91),
 .o 19 (.al ([.s ⟨#[]⟩,.i .i64 0])),
 .s (.st 2 (.t 19) (.k 94)),
 .o 20 (.mv (.k 95))] false [2,3,4,7,18,19,20] [2,3,4,19])
 (.seq (.reg [] [.o 96 (.ld true 2 .cp (.k 19)),
 .s (.st 2 (.t 3) (.k 96))] false [2,3,4,7,18,20] [2,3,4])
 (.reg [] [.o 97 (.fa 4 (.t 2)),
 .o 98 (.ld false 1 .tk (.k 97)),
 .o 99 (.mv (.k 20)),
 .o 100 (.cv (.int .i64) (.k 99)),
 .o 101 (.bs 1 1 (.i .i64 0) [(0,.k 100)]),
 .z 102 (.app 1 8 (.k 98) (.k 101)) 1,
 .o 103 (.fa 4 (.t 2)),
 .s (.st 1 (.k 103) (.k 102))] false [2,3,4,7,18] [2,3,4]))))
 (.reg [] [.o 89 (.mv (.k 18)),
 .o 90 (.bin .add (.k 89) (.c (.i .i64 1))),
 .o 18 (.mv (.k 90))] false [2,3,4,7,18] [2,3,4]))))))
 (.seq (.reg [] [.o 104 (.ld true 5 .cp (.k 2)),
 .u 105 (.ld true 2 .cp (.k 3)) [0] 0,
 .u 106 (.call n_c_ref21_end [.k 105]) [0] 0,
 .s (.st 5 (.t 4) (.k 104)),
 .o 5 (.mv (.k 106))] true [4,5] [4])
 .ret)))))))⟩

def F_op_Of : F := ⟨1,[.inl 2],
 (.seq (.reg [] [.o 2 (.mv (.c (.l .o 1 [])))] false [0] [])
 (.seq (.seq (.reg [] [.o 3 (.mv (.k 0))] false [3] [])
 (.blk 0 (.seq (.reg [] [.o 5 (.bin .eql (.t 3) (.c (.i .i64 1))),
 .o 4 (.mv (.k 5))] false [3,4] [])
 (.cond 4 (.seq (.reg [] [.z 6 (.bs 1 2 (.i .i64 0) [(0,.c (.i .i64 1)),(1,.c (.i .i64 2))]) 1,
 .o 2 (.mv (.k 6))] false [2] [])
 .ret)
 (.seq (.reg [] [.o 8 (.bin .eql (.t 3) (.c (.i .i64 2))),
 .o 7 (.mv (.k 8))] false [3,7] [])
 (.cond 7 (.seq (.reg [] [.z 9 (.bs 1 2 (.i .i64 0) [(0,.c (.i .i64 3)),(1,.c (.i .i64 4))]) 1,
 .o 2 (.mv (.k 9))] false [2] [])
 .ret)
 (.seq (.reg [] [.o 11 (.bin .eql (.t 3) (.c (.i .i64 3))),
 .o 10 (.mv (.k 11))] false [3,10] [])
 (.cond 10 (.seq (.reg [] [.z 12 (.bs 1 2 (.i .i64 0) [(0,.c (.i .i64 5)),(1,.c (.i .i64 6))]) 1,
 .o 2 (.mv (.k 12))] false [2] [])
 .ret)
 (.seq (.reg [] [.o 14 (.bin .eql (.k 3) (.c (.i .i64 4))),
 .o 13 (.mv (.k 14))] false [13] [])
 (.cond 13 (.seq (.reg [] [.z 15 (.bs 1 1 (.i .i64 0) [(0,.c (.i .i64 7))]) 1,
 .o 2 (.mv (.k 15))] false [2] [])
 .ret)
 .skip))))))))))
 (.seq (.reg [] [.o 2 (.mv (.c (.l .o 1 [])))] false [2] [])
 .ret)))⟩

def F_elder_third : F := ⟨2,[.inr (4,true,5),.inl 5],
 (.seq (.reg [] [.o 4 (.al ([.i .i64 0,.i .i64 0,.i .u64 0,.l .o 1 [],.l .o 1 []])),
 .o 5 (.mv (.c (.i .i64 0)))] false [0,1,4] [4])
 (.seq (.reg [] [.o 14 (.mv (.t 1)),
 .o 15 (.call n_octet_In_Byte [.k 14]),
 .o 6 (.mv (.k 15))] false [0,1,4,6] [4])
 (.seq (.seq (.reg [] [.o 16 (.mv (.t 1)),
 .o 17 (.call n_octet_In_Err [.k 16]),
 .o 18 (.bin .eql (.k 17) (.c (.i .i64 0))),
 .o 19 (.mv (.k 18)),
 .c 19 true 20 (.mv (.t 6)),
 .c 19 true 21 (.bin .neq (.k 20) (.c (.i .u8 2))),
 .o 22 (.pick (.k 19) (.k 21) (.c (.b false)))] false [0,1,4,6,22] [4])
 (.cond 22 (.seq (.reg [] [.o 23 (.bd ([.i .i64 0,.i .i64 0,.i .u64 0,.l .o 1 [],.l .o 1 []]) []),
 .s (.st 5 (.t 4) (.k 23)),
 .o 5 (.mv (.c (.i .i64 2)))] false [4,5] [4])
 .ret)
 .skip))
 (.seq (.reg [] [.o 7 (.mv (.c (.l .x 2 [])))] false [0,1,4,6,7] [4,7])
 (.seq (.reg [] [.o 8 (.mv (.c (.l .o 1 [])))] false [0,1,4,6,7,8] [4,7])
 (.seq (.seq (.reg [] [.o 24 (.mv (.k 6)),
 .o 25 (.cv (.int .i64) (.k 24)),
 .o 26 (.mv (.c (.i .i64 0)))] false [0,1,4,7,8,25,26] [4,7])
 (.blk 0 (.loop (.seq (.reg [] [.o 27 (.bin .lss (.t 26) (.t 25))] false [0,1,4,7,8,25,26,27] [4,7])
 (.seq (.cond 27 .skip
 (.exit 0))
 (.seq (.blk 1 (.seq (.reg [] [.o 28 (.mv (.t 26)),
 .o 9 (.mv (.k 28))] false [0,1,4,7,8,9,25,26] [4,7])
 (.seq (.reg [] [.o 29 (.mv (.t 1)),
 .o 30 (.call n_octet_In_Byte [.k 29]),
 .o 31 (.cv (.int .i64) (.k 30)),
 .o 32 (.mv (.t 1)),
 .o 33 (.call n_octet_In_Word [.k 32]),
 .o 34 (.cv (.int .i64) (.k 33)),
 .o 10 (.mv (.k 31)),
 .o 11 (.mv (.k 34))] false [0,1,4,7,8,9,10,11,25,26] [4,7])
 (.seq (.seq (.reg [] [.o 35 (.mv (.t 1)),
 .o 36 (.call n_octet_In_Err [.k 35]),
 .o 37 (.bin .eql (.k 36) (.c (.i .i64 0))),
 .o 38 (.mv (.k 37)),
 .c 38 true 39 (.mv (.t 10)),
 .c 38 true 40 (.mv (.k 9)),
 .c 38 true 41 (.bin .add (.k 40) (.c (.i .i64 1))),
 .c 38 true 42 (.bin .neq (.k 39) (.k 41)),
 .o 43 (.pick (.k 38) (.k 42) (.c (.b false)))] false [0,1,4,7,8,10,11,25,26,43] [4,7])
 (.cond 43 (.seq (.reg [] [.o 44 (.bd ([.i .i64 0,.i .i64 0,.i .u64 0,.l .o 1 [],.l .o 1 []]) []),
 .s (.st 5 (.t 4) (.k 44)),
 .o 5 (.mv (.c (.i .i64 2)))] false [4,5] [4])
 .ret)
 .skip))
 (.reg [.unth 7] [.o 45 (.mv (.k 7)),
 .o 46 (.mv (.k 10)),
 .o 47 (.bd ([.i .i64 0,.s ⟨#[]⟩]) [(0,1,.k 46)]),
 .o 48 (.bs 2 1 (.a ([.i .i64 0,.s ⟨#[]⟩])) [(0,.k 47)]),
 .o 49 (.app 2 24 (.k 45) (.k 48)),
 .o 50 (.mv (.k 8)),
 .o 51 (.mv (.k 11)),
 .o 52 (.bs 1 1 (.i .i64 0) [(0,.k 51)]),
 .z 53 (.app 1 8 (.k 50) (.k 52)) 1,
 .o 7 (.mv (.k 49)),
 .o 8 (.mv (.k 53))] false [0,1,4,7,8,25,26] [4,7])))))
 (.reg [] [.o 54 (.bin .add (.k 26) (.c (.i .i64 1))),
 .o 26 (.mv (.k 54))] false [0,1,4,7,8,25,26] [4,7])))))))
 (.seq (.seq (.reg [.thaw 7] [.o 55 (.mv (.t 7)),
 .o 56 (.len false (.k 55)),
 .o 57 (.mv (.c (.i .i64 0)))] false [0,1,4,7,8,56,57] [4,7])
 (.blk 2 (.loop (.seq (.reg [] [.o 58 (.bin .lss (.t 57) (.t 56))] false [0,1,4,7,8,56,57,58] [4,7])
 (.seq (.cond 58 .skip
 (.exit 2))
 (.seq (.blk 3 (.seq (.reg [] [.o 59 (.mv (.t 57)),
 .o 12 (.mv (.k 59))] false [0,1,4,7,8,12,56,57] [4,7])
 (.reg [.thaw 7] [.o 60 (.mv (.t 7)),
 .o 61 (.mv (.t 12)),
 .o 62 (.mv (.t 1)),
 .o 63 (.mv (.t 8)),
 .o 64 (.mv (.k 12)),
 .o 65 (.ia 1 none (.k 63) (.k 64)),
 .o 66 (.ld false 1 .cp (.k 65)),
 .o 67 (.call n_octet_In_Bytes [.k 62,.k 66]),
 .o 68 (.ia 2 none (.k 60) (.k 61)),
 .o 69 (.fa 1 (.k 68)),
 .s (.st 1 (.k 69) (.k 67))] false [0,1,4,7,8,56,57] [4,7])))
 (.reg [] [.o 70 (.bin .add (.k 57) (.c (.i .i64 1))),
 .o 57 (.mv (.k 70))] false [0,1,4,7,8,56,57] [4,7])))))))
 (.seq (.seq (.reg [] [.o 71 (.mv (.k 1)),
 .o 72 (.call n_octet_In_End [.k 71]),
 .o 13 (.mv (.k 72))] false [0,4,7,13] [4,7])
 (.seq (.reg [] [.o 73 (.mv (.t 13)),
 .o 74 (.bin .neq (.k 73) (.c (.i .i64 0)))] false [0,4,7,13,74] [4,7])
 (.cond 74 (.seq (.reg [] [.o 75 (.bd ([.i .i64 0,.i .i64 0,.i .u64 0,.l .o 1 [],.l .o 1 []]) []),
 .o 76 (.mv (.k 13)),
 .s (.st 5 (.t 4) (.k 75)),
 .o 5 (.mv (.k 76))] false [4,5] [4])
 .ret)
 .skip)))
 (.seq (.reg [.unth 7] [.o 77 (.mv (.k 0)),
 .z 78 (.mv (.k 7)) 2,
 .o 79 (.call n_section_Read [.k 77,.k 78]),
 .o 80 (.ex false 0 79),
 .o 81 (.ex false 1 79),
 .s (.st 5 (.t 4) (.k 80)),
 .o 5 (.mv (.k 81))] false [4,5] [4])
 .ret)))))))))⟩

def F_elder_first : F := ⟨2,[.inr (4,true,5),.inl 5],
 (.seq (.reg [.zz 0] [.o 2 (.bx (.k 0)),
 .o 4 (.al ([.i .i64 0,.i .i64 0,.i .u64 0,.l .o 1 [],.l .o 1 []])),
 .o 5 (.mv (.c (.i .i64 0)))] false [1,2,4] [2,4])
 (.seq (.seq (.reg [] [.o 10 (.fa 0 (.t 2)),
 .o 11 (.ld false 1 .cp (.k 10)),
 .o 12 (.bin .eql (.k 11) (.c (.i .i64 1))),
 .o 13 (.mv (.k 12)),
 .c 13 false 14 (.fa 0 (.t 2)),
 .c 13 false 15 (.ld false 1 .cp (.k 14)),
 .c 13 false 16 (.bin .eql (.k 15) (.c (.i .i64 2))),
 .o 17 (.pick (.k 13) (.c (.b true)) (.k 16))] false [1,2,4,17] [2,4])
 (.cond 17 (.seq (.reg [] [.o 19 (.mv (.k 1)),
 .o 20 (.call n_elder_flat [.k 19]),
 .o 18 (.mv (.k 20)),
 .o 21 (.ex true 0 18),
 .o 22 (.ex false 1 18),
 .o 6 (.mv (.k 21)),
 .o 7 (.mv (.k 22))] false [2,4,6,7] [2,4])
 (.seq (.blk 0 (.seq (.reg [] [.o 30 (.mv (.t 7)),
 .o 31 (.bin .neq (.k 30) (.c (.i .i64 0))),
 .o 29 (.mv (.k 31))] false [2,4,6,7,29] [2,4])
 (.cond 29 (.seq (.reg [] [.o 32 (.ld true 5 .tk (.k 2)),
 .o 33 (.mv (.k 7)),
 .s (.st 5 (.t 4) (.k 32)),
 .o 5 (.mv (.k 33))] false [4,5] [4])
 .ret)
 (.seq (.reg [] [.o 35 (.fa 0 (.t 2)),
 .o 36 (.ld false 1 .cp (.k 35)),
 .o 37 (.bin .eql (.k 36) (.c (.i .i64 2))),
 .o 34 (.mv (.k 37))] false [2,4,6,34] [2,4])
 (.cond 34 (.reg [] [.o 38 (.mv (.k 6)),
 .z 39 (.bs 1 1 (.l .o 2 []) [(0,.k 38)]) 1,
 .o 40 (.fa 3 (.t 2)),
 .s (.st 1 (.k 40) (.k 39))] false [2,4] [2,4])
 (.seq (.reg [] [.o 42 (.mv (.t 6)),
 .o 43 (.len false (.k 42)),
 .o 44 (.fa 1 (.t 2)),
 .o 45 (.ld false 1 .cp (.k 44)),
 .o 46 (.bin .mul (.k 45) (.c (.i .i64 62))),
 .o 47 (.bin .gtr (.k 43) (.k 46)),
 .o 41 (.mv (.k 47))] false [2,4,6,41] [2,4])
 (.cond 41 (.seq (.reg [] [.o 48 (.ld true 5 .tk (.k 2)),
 .s (.st 5 (.t 4) (.k 48)),
 .o 5 (.mv (.c (.i .i64 3)))] false [4,5] [4])
 .ret)
 (.reg [] [.z 23 (.mv (.k 6)) 2,
 .z 24 (.call n_pile_Sorted [.k 23]) 2,
 .u 25 (.fa 1 (.t 2)) [0,1] 0,
 .u 26 (.ld false 1 .cp (.k 25)) [0,1] 0,
 .z 27 (.call n_spread_Deal [.k 24,.k 26]) 1,
 .o 28 (.fa 3 (.t 2)),
 .s (.st 1 (.k 28) (.k 27))] true [2,4] [2,4]))))))))
 (.seq (.reg [] [.o 49 (.ld true 5 .tk (.k 2)),
 .s (.st 5 (.t 4) (.k 49)),
 .o 5 (.mv (.c (.i .i64 0)))] false [4,5] [4])
 .ret)))
 .skip))
 (.seq (.reg [] [.o 51 (.mv (.k 1)),
 .o 52 (.call n_elder_total [.k 51]),
 .o 50 (.mv (.k 52)),
 .o 53 (.ex false 0 50),
 .o 54 (.ex false 1 50),
 .o 8 (.mv (.k 53)),
 .o 9 (.mv (.k 54))] false [2,4,8,9] [2,4])
 (.seq (.reg [] [.o 55 (.mv (.t 8)),
 .z 56 (.bs 1 1 (.i .i64 0) [(0,.k 55)]) 1,
 .o 57 (.fa 4 (.t 2)),
 .s (.st 1 (.k 57) (.k 56))] false [2,4,8,9] [2,4])
 (.seq (.seq (.reg [] [.o 58 (.fa 0 (.t 2)),
 .o 59 (.ld false 1 .cp (.k 58)),
 .o 60 (.bin .eql (.k 59) (.c (.i .i64 3)))] false [2,4,8,9,60] [2,4])
 (.cond 60 (.reg [] [.o 61 (.mv (.k 8)),
 .o 62 (.fa 1 (.t 2)),
 .o 63 (.ld false 1 .cp (.k 62)),
 .z 64 (.call n_wire_Even [.k 61,.k 63]) 1,
 .o 65 (.fa 4 (.t 2)),
 .s (.st 1 (.k 65) (.k 64))] false [2,4,9] [2,4])
 .skip))
 (.seq (.reg [] [.o 66 (.ld true 5 .tk (.k 2)),
 .o 67 (.mv (.k 9)),
 .s (.st 5 (.t 4) (.k 66)),
 .o 5 (.mv (.k 67))] false [4,5] [4])
 .ret))))))⟩

def F_elder_second : F := ⟨2,[.inr (4,true,5),.inl 5],
 (.seq (.reg [] [.o 2 (.bx (.k 0)),
 .o 4 (.al ([.i .i64 0,.i .i64 0,.i .u64 0,.l .o 1 [],.l .o 1 []])),
 .o 5 (.mv (.c (.i .i64 0)))] false [1,2,4] [2,4])
 (.seq (.reg [] [.o 12 (.fa 0 (.t 2)),
 .o 13 (.ld false 1 .cp (.k 12)),
 .o 14 (.fa 1 (.t 2)),
 .o 15 (.ld false 1 .cp (.k 14)),
 .o 16 (.call n_image_Shape [.k 13,.k 15]),
 .o 11 (.mv (.k 16)),
 .o 17 (.ex false 0 11),
 .o 18 (.ex false 1 11),
 .o 6 (.mv (.k 17)),
 .o 7 (.mv (.k 18))] false [1,2,4,6,7] [2,4])
 (.seq (.reg [] [.o 8 (.mv (.c (.i .u64 1000)))] false [1,2,4,6,7,8] [2,4])
 (.seq (.seq (.reg [] [.o 19 (.fa 0 (.t 2)),
 .o 20 (.ld false 1 .cp (.k 19)),
 .o 21 (.bin .eql (.k 20) (.c (.i .i64 1)))] false [1,2,4,6,7,8,21] [2,4])
 (.cond 21 (.reg [] [.o 8 (.mv (.c (.i .u64 62)))] false [1,2,4,6,7,8] [2,4])
 .skip))
 (.seq (.seq (.reg [] [.o 22 (.mv (.k 6)),
 .o 23 (.mv (.c (.i .i64 0)))] false [1,2,4,7,8,22,23] [2,4])
 (.blk 0 (.loop (.seq (.reg [] [.o 24 (.bin .lss (.t 23) (.t 22))] false [1,2,4,7,8,22,23,24] [2,4])
 (.seq (.cond 24 .skip
 (.exit 0))
 (.seq (.blk 1 (.seq (.reg [] [.o 9 (.mv (.c (.l .o 2 [])))] false [1,2,4,7,8,9,22,23] [2,4])
 (.seq (.seq (.reg [] [.o 25 (.mv (.t 1)),
 .o 26 (.mv (.t 8)),
 .o 27 (.call n_octet_In_Num [.k 25,.k 26]),
 .o 28 (.mv (.c (.i .u64 0)))] false [1,2,4,7,8,9,22,23,27,28] [2,4])
 (.blk 2 (.loop (.seq (.reg [] [.o 29 (.bin .lss (.t 28) (.t 27))] false [1,2,4,7,8,9,22,23,27,28,29] [2,4])
 (.seq (.cond 29 .skip
 (.exit 2))
 (.seq (.blk 3 (.seq (.reg [] [.o 30 (.mv (.t 1)),
 .o 31 (.call n_octet_In_Long [.k 30]),
 .o 10 (.mv (.k 31))] false [1,2,4,7,8,9,10,22,23,27,28] [2,4])
 (.seq (.reg [] [.o 32 (.mv (.k 9)),
 .o 33 (.mv (.k 10)),
 .o 34 (.mv (.t 1)),
 .o 35 (.call n_octet_In_Int [.k 34]),
 .o 36 (.call n_elder_item [.k 33,.k 35]),
 .o 37 (.bs 2 1 (.a ([.f .f64 0,.i .i64 0])) [(0,.k 36)]),
 .z 38 (.app 2 16 (.k 32) (.k 37)) 1,
 .o 9 (.mv (.k 38))] false [1,2,4,7,8,9,22,23,27,28] [2,4])
 (.seq (.reg [] [.o 39 (.mv (.t 1)),
 .o 40 (.call n_octet_In_Err [.k 39]),
 .o 41 (.bin .neq (.k 40) (.c (.i .i64 0)))] false [1,2,4,7,8,9,22,23,27,28,41] [2,4])
 (.cond 41 (.seq (.reg [] [.o 42 (.ld true 5 .cp (.k 2)),
 .u 43 (.mv (.k 1)) [0] 0,
 .u 44 (.call n_octet_In_Err [.k 43]) [0] 0,
 .s (.st 5 (.t 4) (.k 42)),
 .o 5 (.mv (.k 44))] true [4,5] [4])
 .ret)
 .skip)))))
 (.reg [] [.o 45 (.bin .add (.k 28) (.c (.i .u64 1))),
 .o 28 (.mv (.k 45))] false [1,2,4,7,8,9,22,23,27,28] [2,4])))))))
 (.reg [] [.o 46 (.fa 3 (.t 2)),
 .o 47 (.ld false 1 .tk (.k 46)),
 .o 48 (.mv (.k 9)),
 .o 49 (.bs 1 1 (.l .o 2 []) [(0,.k 48)]),
 .z 50 (.app 1 24 (.k 47) (.k 49)) 1,
 .o 51 (.fa 3 (.t 2)),
 .s (.st 1 (.k 51) (.k 50))] false [1,2,4,7,8,22,23] [2,4]))))
 (.reg [] [.o 52 (.bin .add (.k 23) (.c (.i .i64 1))),
 .o 23 (.mv (.k 52))] false [1,2,4,7,8,22,23] [2,4])))))))
 (.seq (.seq (.reg [] [.o 53 (.mv (.k 7)),
 .o 54 (.mv (.c (.i .i64 0)))] false [1,2,4,53,54] [2,4])
 (.blk 4 (.loop (.seq (.reg [] [.o 55 (.bin .lss (.t 54) (.t 53))] false [1,2,4,53,54,55] [2,4])
 (.seq (.cond 55 .skip
 (.exit 4))
 (.seq (.blk 5 (.reg [] [.o 56 (.fa 4 (.t 2)),
 .o 57 (.ld false 1 .tk (.k 56)),
 .u 58 (.mv (.t 1)) [0,1] 0,
 .u 59 (.call n_octet_In_Num [.k 58,.c (.i .u64 1125899906842624)]) [0,1] 0,
 .u 60 (.cv (.int .i64) (.k 59)) [0,1] 0,
 .u 61 (.bs 1 1 (.i .i64 0) [(0,.k 60)]) [0,1] 0,
 .z 62 (.app 1 8 (.k 57) (.k 61)) 1,
 .o 63 (.fa 4 (.t 2)),
 .s (.st 1 (.k 63) (.k 62))] true [1,2,4,53,54] [2,4]))
 (.reg [] [.o 64 (.bin .add (.k 54) (.c (.i .i64 1))),
 .o 54 (.mv (.k 64))] false [1,2,4,53,54] [2,4])))))))
 (.seq (.reg [] [.o 65 (.ld true 5 .cp (.k 2)),
 .u 66 (.mv (.k 1)) [0] 0,
 .u 67 (.call n_octet_In_End [.k 66]) [0] 0,
 .s (.st 5 (.t 4) (.k 65)),
 .o 5 (.mv (.k 67))] true [4,5] [4])
 .ret)))))))⟩

def F_octet_fixed_uint64 : F := ⟨3,[.inl 6],
 (.seq (.reg [] [.o 6 (.mv (.c (.l .o 1 [])))] false [0,1,2] [])
 (.seq (.seq (.reg [] [.o 7 (.mv (.k 2)),
 .o 8 (.mv (.c (.i .i64 0)))] false [0,1,7,8] [])
 (.blk 0 (.loop (.seq (.reg [] [.o 9 (.bin .lss (.t 8) (.t 7))] false [0,1,7,8,9] [])
 (.seq (.cond 9 .skip
 (.exit 0))
 (.seq (.blk 1 (.seq (.reg [] [.o 10 (.mv (.k 0)),
 .o 11 (.mv (.t 1)),
 .o 12 (.cv (.int .u8) (.k 11)),
 .o 13 (.bs 1 1 (.i .u8 0) [(0,.k 12)]),
 .z 14 (.app 1 1 (.k 10) (.k 13)) 1,
 .o 0 (.mv (.k 14))] false [0,1,7,8] [])
 (.reg [] [.o 15 (.mv (.k 1)),
 .o 16 (.bin .shr (.k 15) (.c (.i .u64 8))),
 .o 1 (.mv (.k 16))] false [0,1,7,8] [])))
 (.reg [] [.o 17 (.bin .add (.k 8) (.c (.i .i64 1))),
 .o 8 (.mv (.k 17))] false [0,1,7,8] [])))))))
 (.seq (.reg [] [.o 18 (.mv (.k 0)),
 .o 6 (.mv (.k 18))] false [6] [])
 .ret)))⟩

def F_octet_fixed_uint32 : F := ⟨3,[.inl 6],
 (.seq (.reg [] [.o 6 (.mv (.c (.l .o 1 [])))] false [0,1,2] [])
 (.seq (.seq (.reg [] [.o 7 (.mv (.k 2)),
 .o 8 (.mv (.c (.i .i64 0)))] false [0,1,7,8] [])
 (.blk 0 (.loop (.seq (.reg [] [.o 9 (.bin .lss (.t 8) (.t 7))] false [0,1,7,8,9] [])
 (.seq (.cond 9 .skip
 (.exit 0))
 (.seq (.blk 1 (.seq (.reg [] [.o 10 (.mv (.k 0)),
 .o 11 (.mv (.t 1)),
 .o 12 (.cv (.int .u8) (.k 11)),
 .o 13 (.bs 1 1 (.i .u8 0) [(0,.k 12)]),
 .z 14 (.app 1 1 (.k 10) (.k 13)) 1,
 .o 0 (.mv (.k 14))] false [0,1,7,8] [])
 (.reg [] [.o 15 (.mv (.k 1)),
 .o 16 (.bin .shr (.k 15) (.c (.i .u64 8))),
 .o 1 (.mv (.k 16))] false [0,1,7,8] [])))
 (.reg [] [.o 17 (.bin .add (.k 8) (.c (.i .i64 1))),
 .o 8 (.mv (.k 17))] false [0,1,7,8] [])))))))
 (.seq (.reg [] [.o 18 (.mv (.k 0)),
 .o 6 (.mv (.k 18))] false [6] [])
 .ret)))⟩

def F_crc_Table_More : F := ⟨3,[.inl 6],
 (.seq (.reg [] [.o 6 (.mv (.c (.i .u32 0)))] false [0,1,2] [])
 (.seq (.reg [] [.o 9 (.mv (.k 1)),
 .o 10 (.un .xor (.k 9)),
 .o 7 (.mv (.k 10))] false [0,2,7] [])
 (.seq (.seq (.reg [] [.o 11 (.mv (.t 2)),
 .o 12 (.len true (.k 11)),
 .o 13 (.mv (.c (.i .i64 0)))] false [0,2,7,12,13] [])
 (.blk 0 (.loop (.seq (.reg [] [.o 14 (.bin .lss (.t 13) (.t 12))] false [0,2,7,12,13,14] [])
 (.seq (.cond 14 .skip
 (.exit 0))
 (.seq (.blk 1 (.seq (.reg [] [.o 15 (.mv (.t 13)),
 .o 8 (.mv (.k 15))] false [0,2,7,8,12,13] [])
 (.reg [] [.o 16 (.mv (.t 7)),
 .o 17 (.bin .shr (.k 16) (.c (.i .u64 8))),
 .u 18 (.mv (.t 0)) [0,1] 0,
 .u 19 (.mv (.t 7)) [0,1,2] 0,
 .u 20 (.cv (.int .u8) (.k 19)) [0,1,2] 0,
 .u 21 (.mv (.t 2)) [0,1,2,3,4] 0,
 .u 22 (.mv (.k 8)) [0,1,2,3,4,5] 0,
 .u 23 (.ixs (.k 21) (.k 22)) [0,1,2,3,4] 0,
 .u 24 (.bin .xor (.k 20) (.k 23)) [0,1,2] 0,
 .u 25 (.nc (.k 18)) [0,1,3,4,5,6,7,8] 0,
 .u 26 (.ia 1 (some 256) (.k 25) (.k 24)) [0,1] 0,
 .u 27 (.ld false 1 .cp (.k 26)) [0,1] 0,
 .o 28 (.bin .xor (.k 17) (.k 27)),
 .o 7 (.mv (.k 28))] true [0,2,7,12,13] [])))
 (.reg [] [.o 29 (.bin .add (.k 13) (.c (.i .i64 1))),
 .o 13 (.mv (.k 29))] false [0,2,7,12,13] [])))))))
 (.seq (.reg [] [.o 30 (.mv (.k 7)),
 .o 31 (.un .xor (.k 30)),
 .o 6 (.mv (.k 31))] false [6] [])
 .ret))))⟩

def F_section_meta : F := ⟨1,[.inl 2],
 (.seq (.reg [.zz 0] [.o 1 (.bx (.k 0)),
 .o 2 (.mv (.c (.s ⟨#[]⟩)))] false [1] [1])
 (.seq (.reg [] [.o 3 (.fa 1 (.t 1)),
 .o 4 (.ld false 1 .cp (.k 3)),
 .o 5 (.cv (.int .u64) (.k 4)),
 .o 6 (.call n_octet_Num [.c (.l .o 1 []),.k 5]),
 .u 7 (.fa 2 (.t 1)) [0,1,2,3] 0,
 .u 8 (.ld false 1 .cp (.k 7)) [0,1,2,3] 0,
 .o 9 (.call n_octet_Num [.k 6,.k 8]),
 .o 10 (.cv .str (.k 9)),
 .o 2 (.mv (.k 10))] true [2] [])
 .ret))⟩

def F_section_data : F := ⟨1,[.inl 2],
 (.seq (.reg [.zz 0] [.o 1 (.bx (.k 0)),
 .o 2 (.mv (.c (.s ⟨#[]⟩)))] false [1] [1])
 (.seq (.reg [] [.o 3 (.mv (.c (.l .o 1 [])))] false [1,3] [1])
 (.seq (.seq (.reg [] [.o 8 (.fa 3 (.t 1)),
 .o 9 (.ld false 1 .cp (.k 8)),
 .o 10 (.len false (.t 9)),
 .o 11 (.mv (.c (.i .i64 0)))] false [1,3,9,10,11] [1])
 (.blk 0 (.loop (.seq (.reg [] [.o 12 (.bin .lss (.t 11) (.t 10))] false [1,3,9,10,11,12] [1])
 (.seq (.cond 12 .skip
 (.exit 0))
 (.seq (.blk 1 (.seq (.reg [] [.o 13 (.ia 1 none (.t 9) (.t 11)),
 .o 14 (.ld false 1 .cp (.k 13)),
 .o 5 (.mv (.k 14))] false [1,3,5,9,10,11] [1])
 (.reg [] [.o 15 (.mv (.k 3)),
 .z 16 (.mv (.k 5)) 2,
 .o 17 (.call n_section_Items [.k 15,.k 16]),
 .o 3 (.mv (.k 17))] false [1,3,9,10,11] [1])))
 (.reg [] [.o 18 (.bin .add (.k 11) (.c (.i .i64 1))),
 .o 11 (.mv (.k 18))] false [1,3,9,10,11] [1])))))))
 (.seq (.seq (.reg [] [.o 19 (.fa 4 (.k 1)),
 .o 20 (.ld false 1 .tk (.k 19)),
 .o 21 (.len false (.t 20)),
 .o 22 (.mv (.c (.i .i64 0)))] false [3,20,21,22] [])
 (.blk 2 (.loop (.seq (.reg [] [.o 23 (.bin .lss (.t 22) (.t 21))] false [3,20,21,22,23] [])
 (.seq (.cond 23 .skip
 (.exit 2))
 (.seq (.blk 3 (.seq (.reg [] [.o 24 (.ia 1 none (.t 20) (.t 22)),
 .o 25 (.ld false 1 .cp (.k 24)),
 .o 7 (.mv (.k 25))] false [3,7,20,21,22] [])
 (.reg [] [.o 26 (.mv (.k 3)),
 .o 27 (.mv (.k 7)),
 .o 28 (.cv (.int .u64) (.k 27)),
 .o 29 (.call n_octet_Num [.k 26,.k 28]),
 .o 3 (.mv (.k 29))] false [3,20,21,22] [])))
 (.reg [] [.o 30 (.bin .add (.k 22) (.c (.i .i64 1))),
 .o 22 (.mv (.k 30))] false [3,20,21,22] [])))))))
 (.seq (.reg [] [.o 31 (.mv (.k 3)),
 .o 32 (.cv .str (.k 31)),
 .o 2 (.mv (.k 32))] false [2] [])
 .ret)))))⟩

def F_container_heap_Init : F := ⟨1,[],
 (.seq (.reg [] [.o 4 (.mv (.t 0)),
 .o 5 (.inv "Len" (.k 4) []),
 .o 2 (.mv (.k 5))] false [0,2] [])
 (.seq (.reg [] [.o 6 (.mv (.t 2)),
 .o 7 (.bin .quo (.k 6) (.c (.i .i64 2))),
 .o 8 (.bin .sub (.k 7) (.c (.i .i64 1))),
 .o 3 (.mv (.k 8))] false [0,2,3] [])
 (.blk 0 (.loop (.seq (.seq (.reg [] [.o 9 (.mv (.t 3)),
 .o 10 (.bin .geq (.k 9) (.c (.i .i64 0)))] false [0,2,3,10] [])
 (.cond 10 .skip
 (.exit 0)))
 (.seq (.blk 1 (.reg [] [.o 13 (.mv (.t 0)),
 .o 14 (.mv (.t 3)),
 .o 15 (.mv (.t 2)),
 .o 16 (.call n_container_heap_down [.k 13,.k 14,.k 15])] false [0,2,3] []))
 (.reg [] [.o 11 (.mv (.k 3)),
 .o 12 (.bin .sub (.k 11) (.c (.i .i64 1))),
 .o 3 (.mv (.k 12))] false [0,2,3] [])))))))⟩

def F_pile_Pile_Take : F := ⟨1,[.inr (2,true,2),.inl 3],
 (.seq (.reg [] [.o 2 (.al ([.f .f64 0,.i .i64 0])),
 .o 3 (.mv (.c (.b false)))] false [0,2] [2])
 (.seq (.seq (.reg [] [.o 4 (.mv (.t 0)),
 .o 5 (.nc (.k 4)),
 .o 6 (.fa 0 (.k 5)),
 .z 7 (.lda 1 (.k 6)) 1,
 .o 8 (.len false (.k 7)),
 .o 9 (.bin .eql (.k 8) (.c (.i .i64 0)))] false [0,2,9] [2])
 (.cond 9 (.seq (.reg [] [.o 10 (.bd ([.f .f64 0,.i .i64 0]) []),
 .s (.st 2 (.t 2) (.k 10)),
 .o 3 (.mv (.c (.b false)))] false [2,3] [2])
 .ret)
 .skip))
 (.seq (.reg [] [.o 11 (.mv (.k 0)),
 .o 12 (.nc (.k 11)),
 .o 13 (.fa 0 (.k 12)),
 .o 14 (.mi t_pile_items_u (.k 13)),
 .o 15 (.call n_container_heap_Pop [.k 14]),
 .o 16 (.ta t_pile_Item (.k 15)),
 .s (.st 2 (.t 2) (.k 16)),
 .o 3 (.mv (.c (.b true)))] false [2,3] [2])
 .ret)))⟩

def F_real_Key : F := ⟨1,[.inl 2],
 (.seq (.reg [] [.o 2 (.mv (.c (.i .u64 0)))] false [0] [])
 (.seq (.reg [] [.o 4 (.mv (.k 0)),
 .o 5 (.call n_real_Canon [.k 4]),
 .o 6 (.bits (.k 5)),
 .o 3 (.mv (.k 6))] false [3] [])
 (.seq (.seq (.reg [] [.o 7 (.mv (.t 3)),
 .o 8 (.bin .and (.k 7) (.c (.i .u64 9223372036854775808))),
 .o 9 (.bin .neq (.k 8) (.c (.i .u64 0)))] false [3,9] [])
 (.cond 9 (.seq (.reg [] [.o 10 (.mv (.k 3)),
 .o 11 (.un .xor (.k 10)),
 .o 2 (.mv (.k 11))] false [2] [])
 .ret)
 .skip))
 (.seq (.reg [] [.o 12 (.mv (.k 3)),
 .o 13 (.bin .or (.k 12) (.c (.i .u64 9223372036854775808))),
 .o 2 (.mv (.k 13))] false [2] [])
 .ret))))⟩

def F_octet_In_fail : F := ⟨2,[],
 (.reg [] [.o 4 (.mv (.t 0)),
 .o 5 (.mv (.k 0)),
 .o 6 (.mv (.k 1)),
 .o 7 (.nc (.k 4)),
 .o 8 (.fa 0 (.k 7)),
 .s (.st 1 (.k 8) (.c (.s ⟨#[]⟩))),
 .o 9 (.nc (.k 5)),
 .o 10 (.fa 1 (.k 9)),
 .s (.st 1 (.k 10) (.k 6))] false [] [])⟩

def F_section_take : F := ⟨1,[.inl 2,.inl 3],
 (.seq (.reg [] [.o 2 (.mv (.c (.l .o 2 []))),
 .o 3 (.mv (.c (.i .i64 0)))] false [0] [])
 (.seq (.reg [] [.o 11 (.mv (.t 0)),
 .o 12 (.call n_octet_In_Num [.k 11,.c (.i .u64 1000)]),
 .o 4 (.mv (.k 12))] false [0,4] [])
 (.seq (.reg [] [.o 5 (.mv (.c (.l .o 2 [])))] false [0,4,5] [])
 (.seq (.seq (.reg [] [.o 13 (.mv (.k 4)),
 .o 14 (.mv (.c (.i .u64 0)))] false [0,5,13,14] [])
 (.blk 0 (.loop (.seq (.reg [] [.o 15 (.bin .lss (.t 14) (.t 13))] false [0,5,13,14,15] [])
 (.seq (.cond 15 .skip
 (.exit 0))
 (.seq (.blk 1 (.seq (.reg [] [.o 16 (.mv (.t 0)),
 .o 17 (.call n_octet_In_Long [.k 16]),
 .o 6 (.mv (.k 17))] false [0,5,6,13,14] [])
 (.seq (.reg [] [.o 18 (.mv (.t 0)),
 .o 19 (.call n_octet_In_Int [.k 18]),
 .o 7 (.mv (.k 19))] false [0,5,6,7,13,14] [])
 (.seq (.seq (.reg [] [.o 20 (.mv (.t 0)),
 .o 21 (.call n_octet_In_Err [.k 20]),
 .o 8 (.mv (.k 21))] false [0,5,6,7,8,13,14] [])
 (.seq (.reg [] [.o 22 (.mv (.t 8)),
 .o 23 (.bin .neq (.k 22) (.c (.i .i64 0)))] false [0,5,6,7,8,13,14,23] [])
 (.cond 23 (.seq (.reg [] [.o 24 (.mv (.k 8)),
 .o 2 (.mv (.c (.l .o 2 []))),
 .o 3 (.mv (.k 24))] false [2,3] [])
 .ret)
 .skip)))
 (.seq (.reg [] [.o 26 (.mv (.k 6)),
 .o 27 (.call n_real_Back [.k 26]),
 .o 25 (.mv (.k 27)),
 .o 28 (.ex false 0 25),
 .o 29 (.ex false 1 25),
 .o 9 (.mv (.k 28)),
 .o 10 (.mv (.k 29))] false [0,5,7,9,10,13,14] [])
 (.seq (.seq (.reg [] [.o 30 (.mv (.k 10)),
 .o 31 (.un .not (.k 30))] false [0,5,7,9,13,14,31] [])
 (.cond 31 (.seq (.reg [] [.o 2 (.mv (.c (.l .o 2 []))),
 .o 3 (.mv (.c (.i .i64 2)))] false [2,3] [])
 .ret)
 .skip))
 (.reg [] [.o 32 (.mv (.k 5)),
 .o 33 (.mv (.k 9)),
 .o 34 (.mv (.k 7)),
 .o 35 (.bd ([.f .f64 0,.i .i64 0]) [(0,1,.k 33),(1,1,.k 34)]),
 .o 36 (.bs 2 1 (.a ([.f .f64 0,.i .i64 0])) [(0,.k 35)]),
 .z 37 (.app 2 16 (.k 32) (.k 36)) 1,
 .o 5 (.mv (.k 37))] false [0,5,13,14] [])))))))
 (.reg [] [.o 38 (.bin .add (.k 14) (.c (.i .u64 1))),
 .o 14 (.mv (.k 38))] false [0,5,13,14] [])))))))
 (.seq (.reg [] [.o 39 (.mv (.k 5)),
 .o 40 (.mv (.k 0)),
 .o 41 (.call n_octet_In_Err [.k 40]),
 .o 2 (.mv (.k 39)),
 .o 3 (.mv (.k 41))] false [2,3] [])
 .ret)))))⟩

def F_c_ref03_Cmp : F := ⟨2,[.inl 4],
 (.seq (.reg [] [.o 4 (.mv (.c (.i .i64 0)))] false [0,1] [])
 (.seq (.seq (.reg [] [.o 5 (.mv (.t 0)),
 .o 6 (.call n_c_ref03_Key [.k 5]),
 .o 7 (.mv (.t 1)),
 .o 8 (.call n_c_ref03_Key [.k 7]),
 .o 9 (.bin .lss (.k 6) (.k 8))] false [0,1,9] [])
 (.cond 9 (.seq (.reg [] [.o 4 (.mv (.c (.i .i64 (-1))))] false [4] [])
 .ret)
 .skip))
 (.seq (.seq (.reg [] [.o 10 (.mv (.k 0)),
 .o 11 (.call n_c_ref03_Key [.k 10]),
 .o 12 (.mv (.k 1)),
 .o 13 (.call n_c_ref03_Key [.k 12]),
 .o 14 (.bin .gtr (.k 11) (.k 13))] false [14] [])
 (.cond 14 (.seq (.reg [] [.o 4 (.mv (.c (.i .i64 1)))] false [4] [])
 .ret)
 .skip))
 (.seq (.reg [] [.o 4 (.mv (.c (.i .i64 0)))] false [4] [])
 .ret))))⟩

def F_c_ref19_end : F := ⟨1,[.inr (2,true,2)],
 (.seq (.reg [] [.o 1 (.bx (.k 0)),
 .o 2 (.al ([.s ⟨#[]⟩,.i .i64 0]))] false [1,2] [1,2])
 (.seq (.seq (.reg [] [.o 3 (.fa 1 (.t 1)),
 .o 4 (.ld false 1 .cp (.k 3)),
 .o 5 (.bin .eql (.k 4) (.c (.i .i64 0))),
 .o 6 (.mv (.k 5)),
 .c 6 true 7 (.fa 0 (.t 1)),
 .c 6 true 8 (.ld false 1 .cp (.k 7)),
 .c 6 true 9 (.len true (.k 8)),
 .c 6 true 10 (.bin .gtr (.k 9) (.c (.i .i64 0))),
 .o 11 (.pick (.k 6) (.k 10) (.c (.b false)))] false [1,2,11] [1,2])
 (.cond 11 (.seq (.reg [] [.o 12 (.bd ([.s ⟨#[]⟩,.i .i64 0]) [(1,1,.c (.i .i64 2))]),
 .s (.st 2 (.t 2) (.k 12))] false [2] [2])
 .ret)
 .skip))
 (.seq (.reg [] [.o 13 (.ld true 2 .cp (.k 1)),
 .s (.st 2 (.t 2) (.k 13))] false [2] [2])
 .ret)))⟩

def F_c_ref19_items : F := ⟨1,[.inr (2,true,2),.inl 3],
 (.seq (.reg [] [.o 1 (.bx (.k 0)),
 .o 2 (.al ([.s ⟨#[]⟩,.i .i64 0])),
 .o 3 (.mv (.c (.l .o 2 [])))] false [1,2] [1,2])
 (.seq (.reg [] [.z 13 (.bs 2 0 (.a ([.i .u64 0,.i .i64 0])) []) 1,
 .o 4 (.mv (.k 13))] false [1,2,4] [1,2])
 (.seq (.reg [] [.o 15 (.ld true 2 .cp (.t 1)),
 .o 16 (.call n_c_ref01_Number [.k 15,.c (.i .u64 1000)]),
 .o 14 (.mv (.k 16)),
 .o 17 (.ex false 0 14),
 .o 18 (.ex false 1 14),
 .s (.st 2 (.t 1) (.k 17)),
 .o 5 (.mv (.k 18))] false [1,2,4,5] [1,2])
 (.seq (.seq (.reg [] [.o 6 (.mv (.c (.i .u64 0)))] false [1,2,4,5,6] [1,2])
 (.blk 0 (.loop (.seq (.seq (.reg [] [.o 19 (.mv (.t 6)),
 .o 20 (.mv (.t 5)),
 .o 21 (.bin .lss (.k 19) (.k 20)),
 .o 22 (.mv (.k 21)),
 .c 22 true 23 (.fa 1 (.t 1)),
 .c 22 true 24 (.ld false 1 .cp (.k 23)),
 .c 22 true 25 (.bin .eql (.k 24) (.c (.i .i64 0))),
 .o 26 (.pick (.k 22) (.k 25) (.c (.b false)))] false [1,2,4,5,6,26] [1,2])
 (.cond 26 .skip
 (.exit 0)))
 (.seq (.blk 1 (.seq (.reg [] [.o 30 (.ld true 2 .cp (.t 1)),
 .o 31 (.call n_c_ref01_Whole [.k 30,.c (.i .i64 8)]),
 .o 29 (.mv (.k 31)),
 .o 32 (.ex false 0 29),
 .o 33 (.ex false 1 29),
 .o 7 (.al ([.s ⟨#[]⟩,.i .i64 0])),
 .s (.st 2 (.t 7) (.k 32)),
 .o 8 (.mv (.k 33))] false [1,2,4,5,6,7,8] [1,2,7])
 (.seq (.reg [] [.o 35 (.ld true 2 .cp (.k 7)),
 .o 36 (.call n_c_ref01_Signed [.k 35]),
 .o 34 (.mv (.k 36)),
 .o 37 (.ex false 0 34),
 .o 38 (.ex false 1 34),
 .o 9 (.al ([.s ⟨#[]⟩,.i .i64 0])),
 .s (.st 2 (.t 9) (.k 37)),
 .o 10 (.mv (.k 38))] false [1,2,4,5,6,8,9,10] [1,2,9])
 (.seq (.reg [] [.o 39 (.ld true 2 .cp (.k 9)),
 .s (.st 2 (.t 1) (.k 39))] false [1,2,4,5,6,8,10] [1,2])
 (.seq (.reg [] [.o 41 (.mv (.k 8)),
 .o 42 (.call n_c_ref19_float [.k 41]),
 .o 40 (.mv (.k 42)),
 .o 43 (.ex false 0 40),
 .o 44 (.ex false 1 40),
 .o 11 (.mv (.k 43)),
 .o 12 (.mv (.k 44))] false [1,2,4,5,6,10,11,12] [1,2])
 (.seq (.seq (.reg [] [.o 45 (.fa 1 (.t 1)),
 .o 46 (.ld false 1 .cp (.k 45)),
 .o 47 (.bin .eql (.k 46) (.c (.i .i64 0))),
 .o 48 (.mv (.k 47)),
 .c 48 true 49 (.mv (.k 12)),
 .c 48 true 50 (.un .not (.k 49)),
 .o 51 (.pick (.k 48) (.k 50) (.c (.b false)))] false [1,2,4,5,6,10,11,51] [1,2])
 (.cond 51 (.reg [] [.o 52 (.bd ([.s ⟨#[]⟩,.i .i64 0]) [(1,1,.c (.i .i64 2))]),
 .s (.st 2 (.t 1) (.k 52))] false [1,2,4,5,6,10,11] [1,2])
 .skip))
 (.reg [] [.o 53 (.mv (.k 4)),
 .o 54 (.mv (.k 11)),
 .o 55 (.mv (.k 10)),
 .o 56 (.bd ([.i .u64 0,.i .i64 0]) [(0,1,.k 54),(1,1,.k 55)]),
 .o 57 (.bs 2 1 (.a ([.i .u64 0,.i .i64 0])) [(0,.k 56)]),
 .z 58 (.app 2 16 (.k 53) (.k 57)) 1,
 .o 4 (.mv (.k 58))] false [1,2,4,5,6] [1,2])))))))
 (.reg [] [.o 27 (.mv (.k 6)),
 .o 28 (.bin .add (.k 27) (.c (.i .u64 1))),
 .o 6 (.mv (.k 28))] false [1,2,4,5,6] [1,2]))))))
 (.seq (.reg [] [.o 59 (.ld true 2 .cp (.k 1)),
 .o 60 (.mv (.k 4)),
 .s (.st 2 (.t 2) (.k 59)),
 .o 3 (.mv (.k 60))] false [2,3] [2])
 .ret)))))⟩

def F_c_ref01_Bytes : F := ⟨2,[.inr (4,true,2),.inl 5],
 (.seq (.reg [] [.o 2 (.bx (.k 0)),
 .o 4 (.al ([.s ⟨#[]⟩,.i .i64 0])),
 .o 5 (.mv (.c (.s ⟨#[]⟩)))] false [1,2,4] [2,4])
 (.seq (.seq (.reg [] [.o 6 (.fa 1 (.t 2)),
 .o 7 (.ld false 1 .cp (.k 6)),
 .o 8 (.bin .neq (.k 7) (.c (.i .i64 0))),
 .o 9 (.mv (.k 8)),
 .c 9 false 10 (.mv (.t 1)),
 .c 9 false 11 (.bin .leq (.k 10) (.c (.i .i64 0))),
 .o 12 (.pick (.k 9) (.c (.b true)) (.k 11))] false [1,2,4,12] [2,4])
 (.cond 12 (.seq (.reg [] [.o 13 (.ld true 2 .cp (.k 2)),
 .s (.st 2 (.t 4) (.k 13)),
 .o 5 (.mv (.c (.s ⟨#[]⟩)))] false [4,5] [4])
 .ret)
 .skip))
 (.seq (.seq (.reg [] [.o 14 (.mv (.t 1)),
 .o 15 (.fa 0 (.t 2)),
 .o 16 (.ld false 1 .cp (.k 15)),
 .o 17 (.len true (.k 16)),
 .o 18 (.bin .gtr (.k 14) (.k 17))] false [1,2,4,18] [2,4])
 (.cond 18 (.seq (.reg [] [.o 19 (.call n_c_ref01_fail [.c (.i .i64 1)]),
 .s (.st 2 (.t 4) (.k 19)),
 .o 5 (.mv (.c (.s ⟨#[]⟩)))] false [4,5] [4])
 .ret)
 .skip))
 (.seq (.reg [] [.o 20 (.fa 0 (.t 2)),
 .o 21 (.ld false 1 .cp (.k 20)),
 .u 22 (.mv (.t 1)) [0,1] 0,
 .o 23 (.ss (.k 21) (some (.k 22)) none),
 .o 24 (.bd ([.s ⟨#[]⟩,.i .i64 0]) [(0,1,.k 23),(1,1,.c (.i .i64 0))]),
 .u 25 (.fa 0 (.t 2)) [0,1,2,3,4] 0,
 .u 26 (.ld false 1 .cp (.k 25)) [0,1,2,3,4] 0,
 .u 27 (.mv (.t 1)) [0,1,2,3,4,5,6] 0,
 .u 28 (.ss (.k 26) none (some (.k 27))) [0,1,2,3,4] 0,
 ⟨none,none,.st 2 (.t 4) (.k 24),[5,6,7,8],0⟩,
 .o 5 (.mv (.k 28))] true [4,5] [4])
 .ret))))⟩

def F_c_ref21_end : F := ⟨1,[.inl 2],
 (.seq (.reg [] [.o 1 (.bx (.k 0)),
 .o 2 (.mv (.c (.i .i64 0)))] false [1] [1])
 (.seq (.seq (.reg [] [.o 3 (.fa 1 (.t 1)),
 .o 4 (.ld false 1 .cp (.k 3)),
 .o 5 (.bin .eql (.k 4) (.c (.i .i64 0))),
 .o 6 (.mv (.k 5)),
 .c 6 true 7 (.fa 0 (.t 1)),
 .c 6 true 8 (.ld false 1 .cp (.k 7)),
 .c 6 true 9 (.len true (.k 8)),
 .c 6 true 10 (.bin .gtr (.k 9) (.c (.i .i64 0))),
 .o 11 (.pick (.k 6) (.k 10) (.c (.b false)))] false [1,11] [1])
 (.cond 11 (.seq (.reg [] [.o 2 (.mv (.c (.i .i64 2)))] false [2] [])
 .ret)
 .skip))
 (.seq (.reg [] [.o 12 (.fa 1 (.k 1)),
 .o 13 (.ld false 1 .cp (.k 12)),
 .o 2 (.mv (.k 13))] false [2] [])
 .ret)))⟩

def F_c_ref01_fail : F := ⟨1,[.inr (2,true,2)],
 (.seq (.reg [] [.o 2 (.al ([.s ⟨#[]⟩,.i .i64 0]))] false [0,2] [2])
 (.seq (.reg [] [.o 3 (.mv (.k 0)),
 .o 4 (.bd ([.s ⟨#[]⟩,.i .i64 0]) [(0,1,.c (.s ⟨#[]⟩)),(1,1,.k 3)]),
 .s (.st 2 (.t 2) (.k 4))] false [2] [2])
 .ret))⟩

def F_c_ref04_Make : F := ⟨2,[.inr (4,true,2)],
 (.seq (.reg [] [.o 4 (.al ([.i .u64 0,.i .i64 0]))] false [0,1,4] [4])
 (.seq (.reg [] [.o 5 (.mv (.k 0)),
 .o 6 (.call n_c_ref03_Bits [.k 5]),
 .o 7 (.mv (.k 1)),
 .o 8 (.bd ([.i .u64 0,.i .i64 0]) [(0,1,.k 6),(1,1,.k 7)]),
 .s (.st 2 (.t 4) (.k 8))] false [4] [4])
 .ret))⟩

def F_c_ref21_signed : F := ⟨1,[.inl 2],
 (.seq (.reg [] [.o 2 (.mv (.c (.i .i64 0)))] false [0] [])
 (.seq (.seq (.reg [] [.o 3 (.mv (.t 0)),
 .o 4 (.bin .geq (.k 3) (.c (.i .u64 9223372036854775808)))] false [0,4] [])
 (.cond 4 (.seq (.reg [] [.o 5 (.mv (.k 0)),
 .o 6 (.bin .sub (.c (.i .u64 18446744073709551615)) (.k 5)),
 .o 7 (.cv (.int .i64) (.k 6)),
 .o 8 (.un .neg (.k 7)),
 .o 9 (.bin .sub (.k 8) (.c (.i .i64 1))),
 .o 2 (.mv (.k 9))] false [2] [])
 .ret)
 .skip))
 (.seq (.reg [] [.o 10 (.mv (.k 0)),
 .o 11 (.cv (.int .i64) (.k 10)),
 .o 2 (.mv (.k 11))] false [2] [])
 .ret)))⟩

def F_c_ref04_Sorted : F := ⟨1,[.inl 2],
 (.seq (.reg [.zz 0] [.o 2 (.mv (.c (.l .o 2 [])))] false [0] [])
 (.seq (.reg [] [.z 6 (.bs 2 0 (.a ([.i .u64 0,.i .i64 0])) []) 1,
 .o 3 (.mv (.k 6))] false [0,3] [])
 (.seq (.seq (.reg [] [.o 7 (.mv (.k 0)),
 .o 8 (.len false (.t 7)),
 .o 9 (.mv (.c (.i .i64 0)))] false [3,7,8,9] [])
 (.blk 0 (.loop (.seq (.reg [] [.o 10 (.bin .lss (.t 9) (.t 8))] false [3,7,8,9,10] [])
 (.seq (.cond 10 .skip
 (.exit 0))
 (.seq (.blk 1 (.seq (.reg [] [.o 11 (.ia 2 none (.t 7) (.t 9)),
 .o 12 (.ld true 2 .cp (.k 11)),
 .o 5 (.al ([.i .u64 0,.i .i64 0])),
 .s (.st 2 (.t 5) (.k 12))] false [3,5,7,8,9] [5])
 (.reg [] [.z 13 (.mv (.k 3)) 2,
 .o 14 (.fa 0 (.t 5)),
 .o 15 (.ld false 1 .cp (.k 14)),
 .o 16 (.fa 1 (.k 5)),
 .o 17 (.ld false 1 .cp (.k 16)),
 .o 18 (.call n_c_ref04_Make [.k 15,.k 17]),
 .o 19 (.call n_c_ref04_With [.k 13,.k 18]),
 .o 3 (.mv (.k 19))] false [3,7,8,9] [])))
 (.reg [] [.o 20 (.bin .add (.k 9) (.c (.i .i64 1))),
 .o 9 (.mv (.k 20))] false [3,7,8,9] [])))))))
 (.seq (.reg [] [.o 21 (.mv (.k 3)),
 .o 2 (.mv (.k 21))] false [2] [])
 .ret))))⟩

def F_c_ref01_Signed : F := ⟨1,[.inr (2,true,2),.inl 3],
 (.seq (.reg [] [.o 1 (.bx (.k 0)),
 .o 2 (.al ([.s ⟨#[]⟩,.i .i64 0])),
 .o 3 (.mv (.c (.i .i64 0)))] false [1,2] [1,2])
 (.seq (.reg [] [.o 7 (.ld true 2 .cp (.k 1)),
 .o 8 (.call n_c_ref01_Number [.k 7,.c (.i .u64 18446744073709551615)]),
 .o 6 (.mv (.k 8)),
 .o 9 (.ex false 0 6),
 .o 10 (.ex false 1 6),
 .o 4 (.al ([.s ⟨#[]⟩,.i .i64 0])),
 .s (.st 2 (.t 4) (.k 9)),
 .o 5 (.mv (.k 10))] false [2,4,5] [2,4])
 (.seq (.seq (.reg [] [.o 11 (.mv (.t 5)),
 .o 12 (.bin .rem (.k 11) (.c (.i .u64 2))),
 .o 13 (.bin .eql (.k 12) (.c (.i .u64 1)))] false [2,4,5,13] [2,4])
 (.cond 13 (.seq (.reg [] [.o 14 (.ld true 2 .cp (.k 4)),
 .o 15 (.mv (.k 5)),
 .o 16 (.bin .quo (.k 15) (.c (.i .u64 2))),
 .o 17 (.cv (.int .i64) (.k 16)),
 .o 18 (.un .neg (.k 17)),
 .o 19 (.bin .sub (.k 18) (.c (.i .i64 1))),
 .s (.st 2 (.t 2) (.k 14)),
 .o 3 (.mv (.k 19))] false [2,3] [2])
 .ret)
 .skip))
 (.seq (.reg [] [.o 20 (.ld true 2 .cp (.k 4)),
 .o 21 (.mv (.k 5)),
 .o 22 (.bin .quo (.k 21) (.c (.i .u64 2))),
 .o 23 (.cv (.int .i64) (.k 22)),
 .s (.st 2 (.t 2) (.k 20)),
 .o 3 (.mv (.k 23))] false [2,3] [2])
 .ret))))⟩

def F_elder_flat : F := ⟨1,[.inl 2,.inl 3],
 (.seq (.reg [] [.o 2 (.mv (.c (.l .o 2 []))),
 .o 3 (.mv (.c (.i .i64 0)))] false [0] [])
 (.seq (.reg [] [.o 7 (.mv (.t 0)),
 .o 8 (.call n_octet_In_Word [.k 7]),
 .o 4 (.mv (.k 8))] false [0,4] [])
 (.seq (.seq (.reg [] [.o 9 (.mv (.t 0)),
 .o 10 (.call n_octet_In_Err [.k 9]),
 .o 11 (.bin .eql (.k 10) (.c (.i .i64 0))),
 .o 12 (.mv (.k 11)),
 .c 12 true 13 (.mv (.t 4)),
 .c 12 true 14 (.bin .gtr (.k 13) (.c (.i .u32 1000))),
 .o 15 (.pick (.k 12) (.k 14) (.c (.b false)))] false [0,4,15] [])
 (.cond 15 (.seq (.reg [] [.o 2 (.mv (.c (.l .o 2 []))),
 .o 3 (.mv (.c (.i .i64 3)))] false [2,3] [])
 .ret)
 .skip))
 (.seq (.reg [] [.o 5 (.mv (.c (.l .o 2 [])))] false [0,4,5] [])
 (.seq (.seq (.reg [] [.o 16 (.mv (.k 4)),
 .o 17 (.mv (.c (.i .u32 0)))] false [0,5,16,17] [])
 (.blk 0 (.loop (.seq (.reg [] [.o 18 (.bin .lss (.t 17) (.t 16))] false [0,5,16,17,18] [])
 (.seq (.cond 18 .skip
 (.exit 0))
 (.seq (.blk 1 (.seq (.reg [] [.o 19 (.mv (.t 0)),
 .o 20 (.call n_octet_In_Long [.k 19]),
 .o 6 (.mv (.k 20))] false [0,5,6,16,17] [])
 (.seq (.reg [] [.o 21 (.mv (.k 5)),
 .o 22 (.mv (.k 6)),
 .o 23 (.mv (.t 0)),
 .o 24 (.call n_octet_In_Long [.k 23]),
 .o 25 (.cv (.int .i64) (.k 24)),
 .o 26 (.call n_elder_item [.k 22,.k 25]),
 .o 27 (.bs 2 1 (.a ([.f .f64 0,.i .i64 0])) [(0,.k 26)]),
 .z 28 (.app 2 16 (.k 21) (.k 27)) 1,
 .o 5 (.mv (.k 28))] false [0,5,16,17] [])
 (.seq (.reg [] [.o 29 (.mv (.t 0)),
 .o 30 (.call n_octet_In_Err [.k 29]),
 .o 31 (.bin .neq (.k 30) (.c (.i .i64 0)))] false [0,5,16,17,31] [])
 (.cond 31 (.seq (.reg [] [.o 32 (.mv (.k 0)),
 .o 33 (.call n_octet_In_Err [.k 32]),
 .o 2 (.mv (.c (.l .o 2 []))),
 .o 3 (.mv (.k 33))] false [2,3] [])
 .ret)
 .skip)))))
 (.reg [] [.o 34 (.bin .add (.k 17) (.c (.i .u32 1))),
 .o 17 (.mv (.k 34))] false [0,5,16,17] [])))))))
 (.seq (.reg [] [.o 35 (.mv (.k 5)),
 .o 36 (.mv (.k 0)),
 .o 37 (.call n_octet_In_End [.k 36]),
 .o 2 (.mv (.k 35)),
 .o 3 (.mv (.k 37))] false [2,3] [])
 .ret))))))⟩

def F_spread_Deal : F := ⟨2,[.inl 4],
 (.seq (.reg [.zz 0] [.o 4 (.mv (.c (.l .o 1 [])))] false [0,1] [])
 (.seq (.reg [] [.o 7 (.mv (.t 1)),
 .o 8 (.mx true [.k 7,.c (.i .i64 0)]),
 .o 9 (.ms 1 24 (.l .o 2 []) (.t 8) (.t 8)),
 .o 5 (.mv (.k 9))] false [0,1,5] [5])
 (.seq (.seq (.reg [] [.o 6 (.mv (.c (.i .i64 0)))] false [0,1,5,6] [5])
 (.blk 0 (.loop (.seq (.seq (.reg [] [.o 10 (.mv (.t 6)),
 .o 11 (.mv (.t 0)),
 .o 12 (.len false (.k 11)),
 .o 13 (.bin .lss (.k 10) (.k 12)),
 .o 14 (.mv (.k 13)),
 .c 14 true 15 (.mv (.t 1)),
 .c 14 true 16 (.bin .gtr (.k 15) (.c (.i .i64 0))),
 .o 17 (.pick (.k 14) (.k 16) (.c (.b false)))] false [0,1,5,6,17] [5])
 (.cond 17 .skip
 (.exit 0)))
 (.seq (.blk 1 (.reg [.thaw 5] [.o 20 (.mv (.t 5)),
 .u 21 (.mv (.t 6)) [0] 0,
 .u 22 (.mv (.t 1)) [0,1] 0,
 .u 23 (.bin .rem (.k 21) (.k 22)) [0] 0,
 .u 24 (.mv (.t 5)) [0,1,2,3] 0,
 .u 25 (.mv (.t 6)) [0,1,2,3,4] 0,
 .u 26 (.mv (.t 1)) [0,1,2,3,4,5] 0,
 .u 27 (.bin .rem (.k 25) (.k 26)) [0,1,2,3,4] 0,
 .u 28 (.ia 1 none (.k 24) (.k 27)) [0,1,2,3] 0,
 .u 29 (.ld false 1 .tk (.k 28)) [0,1,2,3] 0,
 .u 30 (.mv (.t 0)) [0,1,2,3,4,5,6,7,8,9] 0,
 .u 31 (.mv (.t 6)) [0,1,2,3,4,5,6,7,8,9,10] 0,
 .u 32 (.ia 2 none (.k 30) (.k 31)) [0,1,2,3,4,5,6,7,8,9] 0,
 .u 33 (.ld true 2 .cp (.k 32)) [0,1,2,3,4,5,6,7,8,9] 0,
 .u 34 (.bs 2 1 (.a ([.f .f64 0,.i .i64 0])) [(0,.k 33)]) [0,1,2,3,4,5,6,7,8,9] 0,
 .u 35 (.app 2 16 (.k 29) (.k 34)) [0,1,2,3] 1,
 .o 36 (.ia 1 none (.k 20) (.k 23)),
 .s (.st 1 (.k 36) (.k 35))] true [0,1,5,6] [5]))
 (.reg [] [.o 18 (.mv (.k 6)),
 .o 19 (.bin .add (.k 18) (.c (.i .i64 1))),
 .o 6 (.mv (.k 19))] false [0,1,5,6] [5]))))))
 (.seq (.reg [.unth 5] [.o 37 (.mv (.k 5)),
 .o 4 (.mv (.k 37))] false [4] [])
 .ret))))⟩

def F_elder_total : F := ⟨1,[.inl 2,.inl 3],
 (.seq (.reg [] [.o 2 (.mv (.c (.i .i64 0))),
 .o 3 (.mv (.c (.i .i64 0)))] false [0] [])
 (.seq (.reg [] [.o 5 (.mv (.t 0)),
 .o 6 (.call n_octet_In_Long [.k 5]),
 .o 4 (.mv (.k 6))] false [0,4] [])
 (.seq (.seq (.reg [] [.o 7 (.mv (.t 0)),
 .o 8 (.call n_octet_In_Err [.k 7]),
 .o 9 (.bin .eql (.k 8) (.c (.i .i64 0))),
 .o 10 (.mv (.k 9)),
 .c 10 true 11 (.mv (.t 4)),
 .c 10 true 12 (.bin .gtr (.k 11) (.c (.i .u64 1125899906842624))),
 .o 13 (.pick (.k 10) (.k 12) (.c (.b false)))] false [0,4,13] [])
 (.cond 13 (.seq (.reg [] [.o 2 (.mv (.c (.i .i64 0))),
 .o 3 (.mv (.c (.i .i64 4)))] false [2,3] [])
 .ret)
 .skip))
 (.seq (.reg [] [.o 14 (.mv (.k 4)),
 .o 15 (.cv (.int .i64) (.k 14)),
 .o 16 (.mv (.k 0)),
 .o 17 (.call n_octet_In_End [.k 16]),
 .o 2 (.mv (.k 15)),
 .o 3 (.mv (.k 17))] false [2,3] [])
 .ret))))⟩

def F_wire_Even : F := ⟨2,[.inl 4],
 (.seq (.reg [] [.o 4 (.mv (.c (.l .o 1 [])))] false [0,1] [])
 (.seq (.reg [] [.o 7 (.mv (.t 1)),
 .o 8 (.mx true [.k 7,.c (.i .i64 0)]),
 .o 9 (.ms 1 8 (.i .i64 0) (.t 8) (.t 8)),
 .o 5 (.mv (.k 9))] false [0,1,5] [5])
 (.seq (.seq (.reg [.thaw 5] [.o 10 (.mv (.t 5)),
 .o 11 (.len false (.k 10)),
 .o 12 (.mv (.c (.i .i64 0)))] false [0,1,5,11,12] [5])
 (.blk 0 (.loop (.seq (.reg [] [.o 13 (.bin .lss (.t 12) (.t 11))] false [0,1,5,11,12,13] [5])
 (.seq (.cond 13 .skip
 (.exit 0))
 (.seq (.blk 1 (.seq (.reg [] [.o 14 (.mv (.t 12)),
 .o 6 (.mv (.k 14))] false [0,1,5,6,11,12] [5])
 (.seq (.reg [.thaw 5] [.o 15 (.mv (.t 5)),
 .o 16 (.mv (.t 6)),
 .o 17 (.mv (.t 0)),
 .o 18 (.mv (.t 1)),
 .o 19 (.bin .quo (.k 17) (.k 18)),
 .o 20 (.ia 1 none (.k 15) (.k 16)),
 .s (.st 1 (.k 20) (.k 19))] false [0,1,5,6,11,12] [5])
 (.seq (.reg [] [.o 21 (.mv (.t 6)),
 .o 22 (.mv (.t 0)),
 .o 23 (.mv (.t 1)),
 .o 24 (.bin .rem (.k 22) (.k 23)),
 .o 25 (.bin .lss (.k 21) (.k 24))] false [0,1,5,6,11,12,25] [5])
 (.cond 25 (.reg [.thaw 5] [.o 26 (.mv (.t 5)),
 .o 27 (.mv (.k 6)),
 .o 28 (.ia 1 none (.t 26) (.t 27)),
 .o 29 (.ld false 1 .cp (.k 28)),
 .o 30 (.bin .add (.k 29) (.c (.i .i64 1))),
 .o 31 (.ia 1 none (.k 26) (.k 27)),
 .s (.st 1 (.k 31) (.k 30))] false [0,1,5,11,12] [5])
 .skip)))))
 (.reg [] [.o 32 (.bin .add (.k 12) (.c (.i .i64 1))),
 .o 12 (.mv (.k 32))] false [0,1,5,11,12] [5])))))))
 (.seq (.reg [.unth 5] [.o 33 (.mv (.k 5)),
 .o 4 (.mv (.k 33))] false [4] [])
 .ret))))⟩

def F_octet_In_Long : F := ⟨1,[.inl 2],
 (.seq (.reg [] [.o 2 (.mv (.c (.i .u64 0)))] false [0] [])
 (.seq (.reg [] [.o 3 (.mv (.c (.i .u64 0)))] false [0,3] [])
 (.seq (.seq (.reg [] [.o 6 (.mv (.k 0)),
 .o 7 (.call n_octet_In_Bytes [.k 6,.c (.i .i64 8)]),
 .z 8 (.cv .bytes (.k 7)) 1,
 .o 9 (.len false (.t 8)),
 .o 10 (.mv (.c (.i .i64 0)))] false [3,8,9,10] [])
 (.blk 0 (.loop (.seq (.reg [] [.o 11 (.bin .lss (.t 10) (.t 9))] false [3,8,9,10,11] [])
 (.seq (.cond 11 .skip
 (.exit 0))
 (.seq (.blk 1 (.seq (.reg [] [.o 12 (.mv (.t 10)),
 .o 13 (.ia 1 none (.t 8) (.t 10)),
 .o 14 (.ld false 1 .cp (.k 13)),
 .o 4 (.mv (.k 12)),
 .o 5 (.mv (.k 14))] false [3,4,5,8,9,10] [])
 (.reg [] [.o 15 (.mv (.k 3)),
 .o 16 (.mv (.k 5)),
 .o 17 (.cv (.int .u64) (.k 16)),
 .o 18 (.mv (.k 4)),
 .o 19 (.bin .mul (.c (.i .i64 8)) (.k 18)),
 .o 20 (.bin .shl (.k 17) (.k 19)),
 .o 21 (.bin .or (.k 15) (.k 20)),
 .o 3 (.mv (.k 21))] false [3,8,9,10] [])))
 (.reg [] [.o 22 (.bin .add (.k 10) (.c (.i .i64 1))),
 .o 10 (.mv (.k 22))] false [3,8,9,10] [])))))))
 (.seq (.reg [] [.o 23 (.mv (.k 3)),
 .o 2 (.mv (.k 23))] false [2] [])
 .ret))))⟩

def F_elder_item : F := ⟨2,[.inr (4,true,2)],
 (.seq (.reg [] [.o 4 (.al ([.f .f64 0,.i .i64 0]))] false [0,1,4] [4])
 (.seq (.reg [] [.o 5 (.mv (.k 0)),
 .o 6 (.frbits (.k 5)),
 .o 7 (.mv (.k 1)),
 .o 8 (.bd ([.f .f64 0,.i .i64 0]) [(0,1,.k 6),(1,1,.k 7)]),
 .o 9 (.call n_pile_Item_Canon [.k 8]),
 .s (.st 2 (.t 4) (.k 9))] false [4] [4])
 .ret))⟩

def F_octet_In_Int : F := ⟨1,[.inl 2],
 (.seq (.reg [] [.o 2 (.mv (.c (.i .i64 0)))] false [0] [])
 (.seq (.reg [] [.o 4 (.mv (.k 0)),
 .o 5 (.call n_octet_In_Num [.k 4,.c (.i .u64 18446744073709551615)]),
 .o 3 (.mv (.k 5))] false [3] [])
 (.seq (.reg [] [.o 6 (.mv (.t 3)),
 .o 7 (.bin .shr (.k 6) (.c (.i .u64 1))),
 .o 8 (.cv (.int .i64) (.k 7)),
 .o 9 (.mv (.k 3)),
 .o 10 (.bin .and (.k 9) (.c (.i .u64 1))),
 .o 11 (.cv (.int .i64) (.k 10)),
 .o 12 (.un .neg (.k 11)),
 .o 13 (.bin .xor (.k 8) (.k 12)),
 .o 2 (.mv (.k 13))] false [2] [])
 .ret)))⟩

def F_section_Items : F := ⟨2,[.inl 4],
 (.seq (.reg [.zz 1] [.o 4 (.mv (.c (.l .o 1 [])))] false [0,1] [])
 (.seq (.reg [] [.o 7 (.mv (.k 0)),
 .o 8 (.mv (.t 1)),
 .o 9 (.len false (.k 8)),
 .o 10 (.cv (.int .u64) (.k 9)),
 .o 11 (.call n_octet_Num [.k 7,.k 10]),
 .o 0 (.mv (.k 11))] false [0,1] [])
 (.seq (.seq (.reg [] [.o 12 (.mv (.k 1)),
 .o 13 (.len false (.t 12)),
 .o 14 (.mv (.c (.i .i64 0)))] false [0,12,13,14] [])
 (.blk 0 (.loop (.seq (.reg [] [.o 15 (.bin .lss (.t 14) (.t 13))] false [0,12,13,14,15] [])
 (.seq (.cond 15 .skip
 (.exit 0))
 (.seq (.blk 1 (.seq (.reg [] [.o 16 (.ia 2 none (.t 12) (.t 14)),
 .o 17 (.ld true 2 .cp (.k 16)),
 .o 6 (.al ([.f .f64 0,.i .i64 0])),
 .s (.st 2 (.t 6) (.k 17))] false [0,6,12,13,14] [6])
 (.reg [] [.o 18 (.mv (.k 0)),
 .u 19 (.fa 0 (.t 6)) [0] 0,
 .u 20 (.ld false 1 .cp (.k 19)) [0] 0,
 .u 21 (.call n_real_Key [.k 20]) [0] 0,
 .o 22 (.call n_octet_Long [.k 18,.k 21]),
 .u 23 (.fa 1 (.t 6)) [0,1,2,3,4] 0,
 .u 24 (.ld false 1 .cp (.k 23)) [0,1,2,3,4] 0,
 .o 25 (.call n_octet_Int [.k 22,.k 24]),
 .o 0 (.mv (.k 25))] true [0,12,13,14] [])))
 (.reg [] [.o 26 (.bin .add (.k 14) (.c (.i .i64 1))),
 .o 14 (.mv (.k 26))] false [0,12,13,14] [])))))))
 (.seq (.reg [] [.o 27 (.mv (.k 0)),
 .o 4 (.mv (.k 27))] false [4] [])
 .ret))))⟩

def F_container_heap_down : F := ⟨3,[.inl 6],
 (.seq (.reg [] [.o 6 (.mv (.c (.b false)))] false [0,1,2] [])
 (.seq (.reg [] [.o 11 (.mv (.t 1)),
 .o 7 (.mv (.k 11))] false [0,1,2,7] [])
 (.seq (.blk 0 (.loop (.blk 1 (.seq (.reg [] [.o 12 (.mv (.t 7)),
 .o 13 (.bin .mul (.c (.i .i64 2)) (.k 12)),
 .o 14 (.bin .add (.k 13) (.c (.i .i64 1))),
 .o 8 (.mv (.k 14))] false [0,1,2,7,8] [])
 (.seq (.seq (.reg [] [.o 15 (.mv (.t 8)),
 .o 16 (.mv (.t 2)),
 .o 17 (.bin .geq (.k 15) (.k 16)),
 .o 18 (.mv (.k 17)),
 .c 18 false 19 (.mv (.t 8)),
 .c 18 false 20 (.bin .lss (.k 19) (.c (.i .i64 0))),
 .o 21 (.pick (.k 18) (.c (.b true)) (.k 20))] false [0,1,2,7,8,21] [])
 (.cond 21 (.exit 0)
 .skip))
 (.seq (.reg [] [.o 22 (.mv (.t 8)),
 .o 9 (.mv (.k 22))] false [0,1,2,7,8,9] [])
 (.seq (.seq (.reg [] [.o 23 (.mv (.t 8)),
 .o 24 (.bin .add (.k 23) (.c (.i .i64 1))),
 .o 10 (.mv (.k 24))] false [0,1,2,7,8,9,10] [])
 (.seq (.reg [] [.o 25 (.mv (.t 10)),
 .o 26 (.mv (.t 2)),
 .o 27 (.bin .lss (.k 25) (.k 26)),
 .o 28 (.mv (.k 27)),
 .c 28 true 29 (.mv (.t 0)),
 .c 28 true 30 (.mv (.t 10)),
 .c 28 true 31 (.mv (.k 8)),
 .c 28 true 32 (.inv "Less" (.k 29) [.k 30,.k 31]),
 .o 33 (.pick (.k 28) (.k 32) (.c (.b false)))] false [0,1,2,7,9,10,33] [])
 (.cond 33 (.reg [] [.o 34 (.mv (.k 10)),
 .o 9 (.mv (.k 34))] false [0,1,2,7,9] [])
 .skip)))
 (.seq (.seq (.reg [] [.o 35 (.mv (.t 0)),
 .o 36 (.mv (.t 9)),
 .o 37 (.mv (.t 7)),
 .o 38 (.inv "Less" (.k 35) [.k 36,.k 37]),
 .o 39 (.un .not (.k 38))] false [0,1,2,7,9,39] [])
 (.cond 39 (.exit 0)
 .skip))
 (.seq (.reg [] [.o 40 (.mv (.t 0)),
 .o 41 (.mv (.k 7)),
 .o 42 (.mv (.t 9)),
 .o 43 (.inv "Swap" (.k 40) [.k 41,.k 42])] false [0,1,2,9] [])
 (.reg [] [.o 44 (.mv (.k 9)),
 .o 7 (.mv (.k 44))] false [0,1,2,7] []))))))))))
 (.seq (.reg [] [.o 45 (.mv (.k 7)),
 .o 46 (.mv (.k 1)),
 .o 47 (.bin .gtr (.k 45) (.k 46)),
 .o 6 (.mv (.k 47))] false [6] [])
 .ret))))⟩

def F_container_heap_Pop : F := ⟨1,[.inl 2],
 (.seq (.reg [] [.o 2 (.mv (.c (.nili)))] false [0] [])
 (.seq (.reg [] [.o 4 (.mv (.t 0)),
 .o 5 (.inv "Len" (.k 4) []),
 .o 6 (.bin .sub (.k 5) (.c (.i .i64 1))),
 .o 3 (.mv (.k 6))] false [0,3] [])
 (.seq (.reg [] [.o 7 (.mv (.t 0)),
 .o 8 (.mv (.t 3)),
 .o 9 (.inv "Swap" (.k 7) [.c (.i .i64 0),.k 8])] false [0,3] [])
 (.seq (.reg [] [.o 10 (.mv (.t 0)),
 .o 11 (.mv (.k 3)),
 .o 12 (.call n_container_heap_down [.k 10,.c (.i .i64 0),.k 11])] false [0] [])
 (.seq (.reg [] [.o 13 (.mv (.k 0)),
 .o 14 (.inv "Pop" (.k 13) []),
 .o 2 (.mv (.k 14))] false [2] [])
 .ret)))))⟩

def F_real_Back : F := ⟨1,[.inl 2,.inl 3],
 (.seq (.reg [] [.o 2 (.mv (.c (.f .f64 0))),
 .o 3 (.mv (.c (.b false)))] false [0] [])
 (.seq (.reg [] [.o 6 (.mv (.t 0)),
 .o 7 (.un .xor (.k 6)),
 .o 4 (.mv (.k 7))] false [0,4] [])
 (.seq (.seq (.reg [] [.o 8 (.mv (.t 0)),
 .o 9 (.bin .and (.k 8) (.c (.i .u64 9223372036854775808))),
 .o 10 (.bin .neq (.k 9) (.c (.i .u64 0)))] false [0,4,10] [])
 (.cond 10 (.reg [] [.o 11 (.mv (.t 0)),
 .o 12 (.bin .andNot (.k 11) (.c (.i .u64 9223372036854775808))),
 .o 4 (.mv (.k 12))] false [0,4] [])
 .skip))
 (.seq (.reg [] [.o 13 (.mv (.k 4)),
 .o 14 (.frbits (.k 13)),
 .o 5 (.mv (.k 14))] false [0,5] [])
 (.seq (.seq (.reg [] [.o 15 (.mv (.t 5)),
 .o 16 (.call n_real_Key [.k 15]),
 .o 17 (.mv (.k 0)),
 .o 18 (.bin .neq (.k 16) (.k 17))] false [5,18] [])
 (.cond 18 (.seq (.reg [] [.o 2 (.mv (.c (.f .f64 0))),
 .o 3 (.mv (.c (.b false)))] false [2,3] [])
 .ret)
 .skip))
 (.seq (.reg [] [.o 19 (.mv (.k 5)),
 .o 2 (.mv (.k 19)),
 .o 3 (.mv (.c (.b true)))] false [2,3] [])
 .ret))))))⟩

def F_c_ref19_float : F := ⟨1,[.inl 2,.inl 3],
 (.seq (.reg [] [.o 2 (.mv (.c (.i .u64 0))),
 .o 3 (.mv (.c (.b false)))] false [0] [])
 (.seq (.reg [] [.o 5 (.mv (.t 0)),
 .o 6 (.bin .sub (.k 5) (.c (.i .u64 9223372036854775808))),
 .o 4 (.mv (.k 6))] false [0,4] [])
 (.seq (.seq (.reg [] [.o 7 (.mv (.t 0)),
 .o 8 (.bin .lss (.k 7) (.c (.i .u64 9223372036854775808)))] false [0,4,8] [])
 (.cond 8 (.reg [] [.o 9 (.mv (.t 0)),
 .o 10 (.bin .sub (.c (.i .u64 18446744073709551615)) (.k 9)),
 .o 4 (.mv (.k 10))] false [0,4] [])
 .skip))
 (.seq (.reg [] [.o 11 (.mv (.t 4)),
 .o 12 (.mv (.t 4)),
 .o 13 (.call n_c_ref03_Key [.k 12]),
 .o 14 (.mv (.k 0)),
 .o 15 (.bin .eql (.k 13) (.k 14)),
 .o 16 (.mv (.k 15)),
 .c 16 true 17 (.mv (.t 4)),
 .c 16 true 18 (.call n_c_ref03_Bits [.k 17]),
 .c 16 true 19 (.mv (.k 4)),
 .c 16 true 20 (.bin .eql (.k 18) (.k 19)),
 .o 21 (.pick (.k 16) (.k 20) (.c (.b false))),
 .o 2 (.mv (.k 11)),
 .o 3 (.mv (.k 21))] false [2,3] [])
 .ret))))⟩

def F_pile_items_Len : F := ⟨1,[.inl 2],
 (.seq (.reg [.zz 0] [.o 2 (.mv (.c (.i .i64 0)))] false [0] [])
 (.seq (.reg [] [.o 3 (.mv (.k 0)),
 .o 4 (.len false (.k 3)),
 .o 2 (.mv (.k 4))] false [2] [])
 .ret))⟩

def F_pile_items_Less : F := ⟨3,[.inl 6],
 (.seq (.reg [.zz 0] [.o 6 (.mv (.c (.b false)))] false [0,1,2] [])
 (.seq (.reg [] [.o 7 (.mv (.t 0)),
 .u 8 (.mv (.k 1)) [0] 0,
 .o 9 (.ia 2 none (.k 7) (.k 8)),
 .o 10 (.ld true 2 .cp (.k 9)),
 .u 11 (.mv (.t 0)) [0,1,2,3] 0,
 .u 12 (.mv (.k 2)) [0,1,2,3,4] 0,
 .u 13 (.ia 2 none (.k 11) (.k 12)) [0,1,2,3] 0,
 .u 14 (.ld true 2 .cp (.k 13)) [0,1,2,3] 0,
 .o 15 (.call n_pile_Item_Cmp [.k 10,.k 14]),
 .o 16 (.bin .lss (.k 15) (.c (.i .i64 0))),
 .o 6 (.mv (.k 16))] true [6] [])
 .ret))⟩

def F_pile_items_Swap : F := ⟨3,[],
 (.reg [.thaw 0] [.o 6 (.mv (.t 0)),
 .u 7 (.mv (.t 1)) [0] 0,
 .u 8 (.mv (.t 0)) [0,1] 0,
 .u 9 (.mv (.t 2)) [0,1,2] 0,
 .u 10 (.mv (.t 0)) [0,1,2,3] 0,
 .u 11 (.mv (.t 2)) [0,1,2,3,4] 0,
 .u 12 (.ia 2 none (.k 10) (.k 11)) [0,1,2,3] 0,
 .u 13 (.ld true 2 .cp (.k 12)) [0,1,2,3] 0,
 .u 14 (.mv (.t 0)) [0,1,2,3,4,5,6,7] 0,
 .u 15 (.mv (.t 1)) [0,1,2,3,4,5,6,7,8] 0,
 .u 16 (.ia 2 none (.k 14) (.k 15)) [0,1,2,3,4,5,6,7] 0,
 .u 17 (.ld true 2 .cp (.k 16)) [0,1,2,3,4,5,6,7] 0,
 .u 18 (.ia 2 none (.k 6) (.k 7)) [2,3] 0,
 ⟨none,none,.st 2 (.k 18) (.k 13),[2,3],0⟩,
 .o 19 (.ia 2 none (.k 8) (.k 9)),
 .s (.st 2 (.k 19) (.k 17))] true [] [])⟩

def F_pile_items_Pop : F := ⟨1,[.inl 2],
 (.seq (.reg [] [.o 2 (.mv (.c (.nili)))] false [0] [])
 (.seq (.reg [] [.o 5 (.mv (.t 0)),
 .o 6 (.nc (.k 5)),
 .z 7 (.lda 1 (.k 6)) 1,
 .o 8 (.len false (.k 7)),
 .o 9 (.bin .sub (.k 8) (.c (.i .i64 1))),
 .o 3 (.mv (.k 9))] false [0,3] [])
 (.seq (.reg [] [.o 10 (.mv (.t 0)),
 .o 11 (.nc (.k 10)),
 .z 12 (.lda 1 (.k 11)) 1,
 .o 13 (.mv (.t 3)),
 .o 14 (.ia 2 none (.k 12) (.k 13)),
 .o 15 (.ld true 2 .cp (.k 14)),
 .o 4 (.al ([.f .f64 0,.i .i64 0])),
 .s (.st 2 (.t 4) (.k 15))] false [0,3,4] [4])
 (.seq (.reg [] [.o 16 (.mv (.t 0)),
 .o 17 (.mv (.k 0)),
 .o 18 (.nc (.k 17)),
 .o 19 (.ld false 1 .tk (.k 18)),
 .o 20 (.mv (.k 3)),
 .o 21 (.sl 2 (.k 19) none (some (.k 20)) none),
 .o 22 (.nc (.k 16)),
 .s (.st 1 (.k 22) (.k 21))] false [4] [4])
 (.seq (.reg [] [.o 23 (.ld true 2 .cp (.k 4)),
 .o 24 (.mi t_pile_Item (.k 23)),
 .o 2 (.mv (.k 24))] false [2] [])
 .ret)))))⟩

def F_pile_items_Len_q : F := ⟨1,[.inl 2],
 (.seq (.reg [] [.o 2 (.mv (.c (.i .i64 0)))] false [0] [])
 (.seq (.reg [] [.o 3 (.mv (.k 0)),
 .o 4 (.len false (.k 3)),
 .o 2 (.mv (.k 4))] false [2] [])
 .ret))⟩

def F_pile_items_Less_q : F := ⟨3,[.inl 6],
 (.seq (.reg [] [.o 6 (.mv (.c (.b false)))] false [0,1,2] [])
 (.seq (.reg [] [.o 7 (.mv (.t 0)),
 .u 8 (.mv (.k 1)) [0] 0,
 .o 9 (.ia 2 none (.k 7) (.k 8)),
 .o 10 (.ld true 2 .cp (.k 9)),
 .u 11 (.mv (.t 0)) [0,1,2,3] 0,
 .u 12 (.mv (.k 2)) [0,1,2,3,4] 0,
 .u 13 (.ia 2 none (.k 11) (.k 12)) [0,1,2,3] 0,
 .u 14 (.ld true 2 .cp (.k 13)) [0,1,2,3] 0,
 .o 15 (.call n_pile_Item_Cmp [.k 10,.k 14]),
 .o 16 (.bin .lss (.k 15) (.c (.i .i64 0))),
 .o 6 (.mv (.k 16))] true [6] [])
 .ret))⟩

end Go.AM

/- The functions of the program, as the abstract machine takes them: printed by gen2.py. -/
namespace Go.AM
set_option linter.unusedVariables false
def F_pile_items_Swap_q : F := ⟨3,[],
 (.reg [] [.o 6 (.mv (.t 0)),
 .u 7 (.mv (.t 1)) [0] 0,
 .u 8 (.mv (.t 0)) [0,1] 0,
 .u 9 (.mv (.t 2)) [0,1,2] 0,
 .u 10 (.mv (.t 0)) [0,1,2,3] 0,
 .u 11 (.mv (.t 2)) [0,1,2,3,4] 0,
 .u 12 (.ia 2 none (.k 10) (.k 11)) [0,1,2,3] 0,
 .u 13 (.ld true 2 .cp (.k 12)) [0,1,2,3] 0,
 .u 14 (.mv (.t 0)) [0,1,2,3,4,5,6,7] 0,
 .u 15 (.mv (.t 1)) [0,1,2,3,4,5,6,7,8] 0,
 .u 16 (.ia 2 none (.k 14) (.k 15)) [0,1,2,3,4,5,6,7] 0,
 .u 17 (.ld true 2 .cp (.k 16)) [0,1,2,3,4,5,6,7] 0,
 .u 18 (.ia 2 none (.k 6) (.k 7)) [2,3] 0,
 ⟨none,none,.st 2 (.k 18) (.k 13),[2,3],0⟩,
 .o 19 (.ia 2 none (.k 8) (.k 9)),
 .s (.st 2 (.k 19) (.k 17))] true [] [])⟩

end Go.AM

/- The table of the functions. -/
namespace Go.AM
set_option linter.unusedVariables false
def tab : List (Nat × F) := [(n_c_law22_UpgradeMany, F_c_law22_UpgradeMany), (n_c_ref21_Write, F_c_ref21_Write), (n_c_law17_Told, F_c_law17_Told), (n_c_law17_Make, F_c_law17_Make), (n_c_ref02_Seal, F_c_ref02_Seal), (n_elder_Read, F_elder_Read), (n_elder_Write, F_elder_Write), (n_image_Image_Value, F_image_Image_Value), (n_c_law22_awake, F_c_law22_awake), (n_upgrade_All, F_upgrade_All), (n_upgrade_Step, F_upgrade_Step), (n_upgrade_Many, F_upgrade_Many), (n_c_ref22_All, F_c_ref22_All), (n_file_Decode, F_file_Decode), (n_elder_Version, F_elder_Version), (n_c_ref01_Num2, F_c_ref01_Num2), (n_c_ref17_Value, F_c_ref17_Value), (n_c_ref01_Fixed, F_c_ref01_Fixed), (n_c_ref01_Int, F_c_ref01_Int), (n_c_ref19_Meta, F_c_ref19_Meta), (n_c_ref19_Data, F_c_ref19_Data), (n_c_ref20_Encode, F_c_ref20_Encode), (n_c_law04_Bits, F_c_law04_Bits), (n_c_law12_Kind, F_c_law12_Kind), (n_c_law04_Own, F_c_law04_Own), (n_pile_Item_Canon, F_pile_Item_Canon), (n_c_law17_sorted, F_c_law17_sorted), (n_c_ref02_Word, F_c_ref02_Word), (n_c_ref02_Sum, F_c_ref02_Sum), (n_c_ref21_Read, F_c_ref21_Read), (n_elder_read, F_elder_read), (n_image_Image_Check, F_image_Image_Check), (n_elder_one, F_elder_one), (n_crc_Make, F_crc_Make), (n_crc_Table_Seal, F_crc_Table_Seal), (n_elder_two, F_elder_two), (n_elder_three, F_elder_three), (n_file_Encode, F_file_Encode), (n_pile_Sorted, F_pile_Sorted), (n_pile_Item_Cmp, F_pile_Item_Cmp), (n_file_reader_begin, F_file_reader_begin), (n_file_reader_sections, F_file_reader_sections), (n_section_Read, F_section_Read), (n_strings_HasPrefix, F_strings_HasPrefix), (n_c_ref04_With, F_c_ref04_With), (n_c_ref19_Items, F_c_ref19_Items), (n_c_ref20_word, F_c_ref20_word), (n_c_ref20_entry, F_c_ref20_entry), (n_c_ref03_Bits, F_c_ref03_Bits), (n_c_law03_F, F_c_law03_F), (n_real_Canon, F_real_Canon), (n_c_ref02_Bits, F_c_ref02_Bits), (n_c_ref21_Version, F_c_ref21_Version), (n_c_ref20_Decode, F_c_ref20_Decode), (n_c_ref21_parse, F_c_ref21_parse), (n_c_ref17_Check, F_c_ref17_Check), (n_crc_Table_Open, F_crc_Table_Open), (n_elder_parse, F_elder_parse), (n_op_Legal, F_op_Legal), (n_image_Shape, F_image_Shape), (n_image_order, F_image_order), (n_octet_Num, F_octet_Num), (n_octet_Long, F_octet_Long), (n_octet_Word, F_octet_Word), (n_crc_Table_Sum, F_crc_Table_Sum), (n_octet_Int, F_octet_Int), (n_section_Of, F_section_Of), (n_pile_New, F_pile_New), (n_pile_Pile_All, F_pile_Pile_All), (n_real_Cmp, F_real_Cmp), (n_octet_Of, F_octet_Of), (n_octet_In_Bytes, F_octet_In_Bytes), (n_octet_In_Byte, F_octet_In_Byte), (n_octet_In_Word, F_octet_In_Word), (n_octet_In_Err, F_octet_In_Err), (n_octet_In_Num, F_octet_In_Num), (n_octet_In_End, F_octet_In_End), (n_section_read, F_section_read), (n_internal_stringslite_HasPrefix, F_internal_stringslite_HasPrefix), (n_c_ref04_Cmp, F_c_ref04_Cmp), (n_c_ref03_Key, F_c_ref03_Key), (n_c_ref20_number, F_c_ref20_number), (n_c_ref19_Read, F_c_ref19_Read), (n_c_ref01_Whole, F_c_ref01_Whole), (n_c_ref21_third, F_c_ref21_third), (n_c_ref01_Number, F_c_ref01_Number), (n_c_ref06_Legal, F_c_ref06_Legal), (n_c_ref21_first, F_c_ref21_first), (n_c_ref21_second, F_c_ref21_second), (n_op_Of, F_op_Of), (n_elder_third, F_elder_third), (n_elder_first, F_elder_first), (n_elder_second, F_elder_second), (n_octet_fixed_uint64, F_octet_fixed_uint64), (n_octet_fixed_uint32, F_octet_fixed_uint32), (n_crc_Table_More, F_crc_Table_More), (n_section_meta, F_section_meta), (n_section_data, F_section_data), (n_container_heap_Init, F_container_heap_Init), (n_pile_Pile_Take, F_pile_Pile_Take), (n_real_Key, F_real_Key), (n_octet_In_fail, F_octet_In_fail), (n_section_take, F_section_take), (n_c_ref03_Cmp, F_c_ref03_Cmp), (n_c_ref19_end, F_c_ref19_end), (n_c_ref19_items, F_c_ref19_items), (n_c_ref01_Bytes, F_c_ref01_Bytes), (n_c_ref21_end, F_c_ref21_end), (n_c_ref01_fail, F_c_ref01_fail), (n_c_ref04_Make, F_c_ref04_Make), (n_c_ref21_signed, F_c_ref21_signed), (n_c_ref04_Sorted, F_c_ref04_Sorted), (n_c_ref01_Signed, F_c_ref01_Signed), (n_elder_flat, F_elder_flat), (n_spread_Deal, F_spread_Deal), (n_elder_total, F_elder_total), (n_wire_Even, F_wire_Even), (n_octet_In_Long, F_octet_In_Long), (n_elder_item, F_elder_item), (n_octet_In_Int, F_octet_In_Int), (n_section_Items, F_section_Items), (n_container_heap_down, F_container_heap_down), (n_container_heap_Pop, F_container_heap_Pop), (n_real_Back, F_real_Back), (n_c_ref19_float, F_c_ref19_float), (n_pile_items_Len, F_pile_items_Len), (n_pile_items_Less, F_pile_items_Less), (n_pile_items_Swap, F_pile_items_Swap), (n_pile_items_Pop, F_pile_items_Pop), (n_pile_items_Len_q, F_pile_items_Len_q), (n_pile_items_Less_q, F_pile_items_Less_q), (n_pile_items_Swap_q, F_pile_items_Swap_q)]
def methL : List (TypeId × String × FuncId) := [(t_pile_Item, "Canon", n_pile_Item_Canon), (t_pile_Item, "Cmp", n_pile_Item_Cmp), (t_pile_items_u, "Len", n_pile_items_Len_q), (t_pile_items_u, "Less", n_pile_items_Less_q), (t_pile_items_u, "Pop", n_pile_items_Pop), (t_pile_items_u, "Swap", n_pile_items_Swap_q)]
def EE : En := ⟨fun f => look f tab, some 68, some 103, fun t nm => (methL.find? fun p => p.1 == t && p.2.1 == nm).map (·.2.2)⟩
theorem e_c_law22_UpgradeMany : EE.fn n_c_law22_UpgradeMany = some F_c_law22_UpgradeMany := by kernel_rfl
theorem e_c_ref21_Write : EE.fn n_c_ref21_Write = some F_c_ref21_Write := by kernel_rfl
theorem e_c_law17_Told : EE.fn n_c_law17_Told = some F_c_law17_Told := by kernel_rfl
theorem e_c_law17_Make : EE.fn n_c_law17_Make = some F_c_law17_Make := by kernel_rfl
theorem e_c_ref02_Seal : EE.fn n_c_ref02_Seal = some F_c_ref02_Seal := by kernel_rfl
theorem e_elder_Read : EE.fn n_elder_Read = some F_elder_Read := by kernel_rfl
theorem e_elder_Write : EE.fn n_elder_Write = some F_elder_Write := by kernel_rfl
theorem e_image_Image_Value : EE.fn n_image_Image_Value = some F_image_Image_Value := by kernel_rfl
theorem e_c_law22_awake : EE.fn n_c_law22_awake = some F_c_law22_awake := by kernel_rfl
theorem e_upgrade_All : EE.fn n_upgrade_All = some F_upgrade_All := by kernel_rfl
theorem e_upgrade_Step : EE.fn n_upgrade_Step = some F_upgrade_Step := by kernel_rfl
theorem e_upgrade_Many : EE.fn n_upgrade_Many = some F_upgrade_Many := by kernel_rfl
theorem e_c_ref22_All : EE.fn n_c_ref22_All = some F_c_ref22_All := by kernel_rfl
theorem e_file_Decode : EE.fn n_file_Decode = some F_file_Decode := by kernel_rfl
theorem e_elder_Version : EE.fn n_elder_Version = some F_elder_Version := by kernel_rfl
theorem e_c_ref01_Num2 : EE.fn n_c_ref01_Num2 = some F_c_ref01_Num2 := by kernel_rfl
theorem e_c_ref17_Value : EE.fn n_c_ref17_Value = some F_c_ref17_Value := by kernel_rfl
theorem e_c_ref01_Fixed : EE.fn n_c_ref01_Fixed = some F_c_ref01_Fixed := by kernel_rfl
theorem e_c_ref01_Int : EE.fn n_c_ref01_Int = some F_c_ref01_Int := by kernel_rfl
theorem e_c_ref19_Meta : EE.fn n_c_ref19_Meta = some F_c_ref19_Meta := by kernel_rfl
theorem e_c_ref19_Data : EE.fn n_c_ref19_Data = some F_c_ref19_Data := by kernel_rfl
theorem e_c_ref20_Encode : EE.fn n_c_ref20_Encode = some F_c_ref20_Encode := by kernel_rfl
theorem e_c_law04_Bits : EE.fn n_c_law04_Bits = some F_c_law04_Bits := by kernel_rfl
theorem e_c_law12_Kind : EE.fn n_c_law12_Kind = some F_c_law12_Kind := by kernel_rfl
theorem e_c_law04_Own : EE.fn n_c_law04_Own = some F_c_law04_Own := by kernel_rfl
theorem e_pile_Item_Canon : EE.fn n_pile_Item_Canon = some F_pile_Item_Canon := by kernel_rfl
theorem e_c_law17_sorted : EE.fn n_c_law17_sorted = some F_c_law17_sorted := by kernel_rfl
theorem e_c_ref02_Word : EE.fn n_c_ref02_Word = some F_c_ref02_Word := by kernel_rfl
theorem e_c_ref02_Sum : EE.fn n_c_ref02_Sum = some F_c_ref02_Sum := by kernel_rfl
theorem e_c_ref21_Read : EE.fn n_c_ref21_Read = some F_c_ref21_Read := by kernel_rfl
theorem e_elder_read : EE.fn n_elder_read = some F_elder_read := by kernel_rfl
theorem e_image_Image_Check : EE.fn n_image_Image_Check = some F_image_Image_Check := by kernel_rfl
theorem e_elder_one : EE.fn n_elder_one = some F_elder_one := by kernel_rfl
theorem e_crc_Make : EE.fn n_crc_Make = some F_crc_Make := by kernel_rfl
theorem e_crc_Table_Seal : EE.fn n_crc_Table_Seal = some F_crc_Table_Seal := by kernel_rfl
theorem e_elder_two : EE.fn n_elder_two = some F_elder_two := by kernel_rfl
theorem e_elder_three : EE.fn n_elder_three = some F_elder_three := by kernel_rfl
theorem e_file_Encode : EE.fn n_file_Encode = some F_file_Encode := by kernel_rfl
theorem e_pile_Sorted : EE.fn n_pile_Sorted = some F_pile_Sorted := by kernel_rfl
theorem e_pile_Item_Cmp : EE.fn n_pile_Item_Cmp = some F_pile_Item_Cmp := by kernel_rfl
theorem e_file_reader_begin : EE.fn n_file_reader_begin = some F_file_reader_begin := by kernel_rfl
theorem e_file_reader_sections : EE.fn n_file_reader_sections = some F_file_reader_sections := by kernel_rfl
theorem e_section_Read : EE.fn n_section_Read = some F_section_Read := by kernel_rfl
theorem e_strings_HasPrefix : EE.fn n_strings_HasPrefix = some F_strings_HasPrefix := by kernel_rfl
theorem e_c_ref04_With : EE.fn n_c_ref04_With = some F_c_ref04_With := by kernel_rfl
theorem e_c_ref19_Items : EE.fn n_c_ref19_Items = some F_c_ref19_Items := by kernel_rfl
theorem e_c_ref20_word : EE.fn n_c_ref20_word = some F_c_ref20_word := by kernel_rfl
theorem e_c_ref20_entry : EE.fn n_c_ref20_entry = some F_c_ref20_entry := by kernel_rfl
theorem e_c_ref03_Bits : EE.fn n_c_ref03_Bits = some F_c_ref03_Bits := by kernel_rfl
theorem e_c_law03_F : EE.fn n_c_law03_F = some F_c_law03_F := by kernel_rfl
theorem e_real_Canon : EE.fn n_real_Canon = some F_real_Canon := by kernel_rfl
theorem e_c_ref02_Bits : EE.fn n_c_ref02_Bits = some F_c_ref02_Bits := by kernel_rfl
theorem e_c_ref21_Version : EE.fn n_c_ref21_Version = some F_c_ref21_Version := by kernel_rfl
theorem e_c_ref20_Decode : EE.fn n_c_ref20_Decode = some F_c_ref20_Decode := by kernel_rfl
theorem e_c_ref21_parse : EE.fn n_c_ref21_parse = some F_c_ref21_parse := by kernel_rfl
theorem e_c_ref17_Check : EE.fn n_c_ref17_Check = some F_c_ref17_Check := by kernel_rfl
theorem e_crc_Table_Open : EE.fn n_crc_Table_Open = some F_crc_Table_Open := by kernel_rfl
theorem e_elder_parse : EE.fn n_elder_parse = some F_elder_parse := by kernel_rfl
theorem e_op_Legal : EE.fn n_op_Legal = some F_op_Legal := by kernel_rfl
theorem e_image_Shape : EE.fn n_image_Shape = some F_image_Shape := by kernel_rfl
theorem e_image_order : EE.fn n_image_order = some F_image_order := by kernel_rfl
theorem e_octet_Num : EE.fn n_octet_Num = some F_octet_Num := by kernel_rfl
theorem e_octet_Long : EE.fn n_octet_Long = some F_octet_Long := by kernel_rfl
theorem e_octet_Word : EE.fn n_octet_Word = some F_octet_Word := by kernel_rfl
theorem e_crc_Table_Sum : EE.fn n_crc_Table_Sum = some F_crc_Table_Sum := by kernel_rfl
theorem e_octet_Int : EE.fn n_octet_Int = some F_octet_Int := by kernel_rfl
theorem e_section_Of : EE.fn n_section_Of = some F_section_Of := by kernel_rfl
theorem e_pile_New : EE.fn n_pile_New = some F_pile_New := by kernel_rfl
theorem e_pile_Pile_All : EE.fn n_pile_Pile_All = some F_pile_Pile_All := by kernel_rfl
theorem e_real_Cmp : EE.fn n_real_Cmp = some F_real_Cmp := by kernel_rfl
theorem e_octet_Of : EE.fn n_octet_Of = some F_octet_Of := by kernel_rfl
theorem e_octet_In_Bytes : EE.fn n_octet_In_Bytes = some F_octet_In_Bytes := by kernel_rfl
theorem e_octet_In_Byte : EE.fn n_octet_In_Byte = some F_octet_In_Byte := by kernel_rfl
theorem e_octet_In_Word : EE.fn n_octet_In_Word = some F_octet_In_Word := by kernel_rfl
theorem e_octet_In_Err : EE.fn n_octet_In_Err = some F_octet_In_Err := by kernel_rfl
theorem e_octet_In_Num : EE.fn n_octet_In_Num = some F_octet_In_Num := by kernel_rfl
theorem e_octet_In_End : EE.fn n_octet_In_End = some F_octet_In_End := by kernel_rfl
theorem e_section_read : EE.fn n_section_read = some F_section_read := by kernel_rfl
theorem e_internal_stringslite_HasPrefix : EE.fn n_internal_stringslite_HasPrefix = some F_internal_stringslite_HasPrefix := by kernel_rfl
theorem e_c_ref04_Cmp : EE.fn n_c_ref04_Cmp = some F_c_ref04_Cmp := by kernel_rfl
theorem e_c_ref03_Key : EE.fn n_c_ref03_Key = some F_c_ref03_Key := by kernel_rfl
theorem e_c_ref20_number : EE.fn n_c_ref20_number = some F_c_ref20_number := by kernel_rfl
theorem e_c_ref19_Read : EE.fn n_c_ref19_Read = some F_c_ref19_Read := by kernel_rfl
theorem e_c_ref01_Whole : EE.fn n_c_ref01_Whole = some F_c_ref01_Whole := by kernel_rfl
theorem e_c_ref21_third : EE.fn n_c_ref21_third = some F_c_ref21_third := by kernel_rfl
theorem e_c_ref01_Number : EE.fn n_c_ref01_Number = some F_c_ref01_Number := by kernel_rfl
theorem e_c_ref06_Legal : EE.fn n_c_ref06_Legal = some F_c_ref06_Legal := by kernel_rfl
theorem e_c_ref21_first : EE.fn n_c_ref21_first = some F_c_ref21_first := by kernel_rfl
theorem e_c_ref21_second : EE.fn n_c_ref21_second = some F_c_ref21_second := by kernel_rfl
theorem e_op_Of : EE.fn n_op_Of = some F_op_Of := by kernel_rfl
theorem e_elder_third : EE.fn n_elder_third = some F_elder_third := by kernel_rfl
theorem e_elder_first : EE.fn n_elder_first = some F_elder_first := by kernel_rfl
theorem e_elder_second : EE.fn n_elder_second = some F_elder_second := by kernel_rfl
theorem e_octet_fixed_uint64 : EE.fn n_octet_fixed_uint64 = some F_octet_fixed_uint64 := by kernel_rfl
theorem e_octet_fixed_uint32 : EE.fn n_octet_fixed_uint32 = some F_octet_fixed_uint32 := by kernel_rfl
theorem e_crc_Table_More : EE.fn n_crc_Table_More = some F_crc_Table_More := by kernel_rfl
theorem e_section_meta : EE.fn n_section_meta = some F_section_meta := by kernel_rfl
theorem e_section_data : EE.fn n_section_data = some F_section_data := by kernel_rfl
theorem e_container_heap_Init : EE.fn n_container_heap_Init = some F_container_heap_Init := by kernel_rfl
theorem e_pile_Pile_Take : EE.fn n_pile_Pile_Take = some F_pile_Pile_Take := by kernel_rfl
theorem e_real_Key : EE.fn n_real_Key = some F_real_Key := by kernel_rfl
theorem e_octet_In_fail : EE.fn n_octet_In_fail = some F_octet_In_fail := by kernel_rfl
theorem e_section_take : EE.fn n_section_take = some F_section_take := by kernel_rfl
theorem e_c_ref03_Cmp : EE.fn n_c_ref03_Cmp = some F_c_ref03_Cmp := by kernel_rfl
theorem e_c_ref19_end : EE.fn n_c_ref19_end = some F_c_ref19_end := by kernel_rfl
theorem e_c_ref19_items : EE.fn n_c_ref19_items = some F_c_ref19_items := by kernel_rfl
theorem e_c_ref01_Bytes : EE.fn n_c_ref01_Bytes = some F_c_ref01_Bytes := by kernel_rfl
theorem e_c_ref21_end : EE.fn n_c_ref21_end = some F_c_ref21_end := by kernel_rfl
theorem e_c_ref01_fail : EE.fn n_c_ref01_fail = some F_c_ref01_fail := by kernel_rfl
theorem e_c_ref04_Make : EE.fn n_c_ref04_Make = some F_c_ref04_Make := by kernel_rfl
theorem e_c_ref21_signed : EE.fn n_c_ref21_signed = some F_c_ref21_signed := by kernel_rfl
theorem e_c_ref04_Sorted : EE.fn n_c_ref04_Sorted = some F_c_ref04_Sorted := by kernel_rfl
theorem e_c_ref01_Signed : EE.fn n_c_ref01_Signed = some F_c_ref01_Signed := by kernel_rfl
theorem e_elder_flat : EE.fn n_elder_flat = some F_elder_flat := by kernel_rfl
theorem e_spread_Deal : EE.fn n_spread_Deal = some F_spread_Deal := by kernel_rfl
theorem e_elder_total : EE.fn n_elder_total = some F_elder_total := by kernel_rfl
theorem e_wire_Even : EE.fn n_wire_Even = some F_wire_Even := by kernel_rfl
theorem e_octet_In_Long : EE.fn n_octet_In_Long = some F_octet_In_Long := by kernel_rfl
theorem e_elder_item : EE.fn n_elder_item = some F_elder_item := by kernel_rfl
theorem e_octet_In_Int : EE.fn n_octet_In_Int = some F_octet_In_Int := by kernel_rfl
theorem e_section_Items : EE.fn n_section_Items = some F_section_Items := by kernel_rfl
theorem e_container_heap_down : EE.fn n_container_heap_down = some F_container_heap_down := by kernel_rfl
theorem e_container_heap_Pop : EE.fn n_container_heap_Pop = some F_container_heap_Pop := by kernel_rfl
theorem e_real_Back : EE.fn n_real_Back = some F_real_Back := by kernel_rfl
theorem e_c_ref19_float : EE.fn n_c_ref19_float = some F_c_ref19_float := by kernel_rfl
theorem e_pile_items_Pop : EE.fn n_pile_items_Pop = some F_pile_items_Pop := by kernel_rfl
theorem e_pile_items_Len_q : EE.fn n_pile_items_Len_q = some F_pile_items_Len_q := by kernel_rfl
theorem e_pile_items_Less_q : EE.fn n_pile_items_Less_q = some F_pile_items_Less_q := by kernel_rfl
theorem e_pile_items_Swap_q : EE.fn n_pile_items_Swap_q = some F_pile_items_Swap_q := by kernel_rfl
end Go.AM
